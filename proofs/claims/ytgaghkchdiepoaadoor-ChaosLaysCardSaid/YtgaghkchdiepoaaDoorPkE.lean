/- The chapter's first example holds. -/
import Derived.Test.YtgaghkchdiepoaaDoorPkD
import Derived.Test.YtgaghkchdiepoaaDoorPkA

namespace Go.Proofs.YtgaghkchdiepoaaDoor
open Go.RowKit Go.Dl
attribute [local irreducible] Tri SCall TSem ECall Drawn DFun QSem PSem PCall GCall MCall Round Weak dloadE OW DWl Tells Retold ESem
theorem k39 : eqTK Tryd.prog 39 = some [.int, .int] := by kernel_rfl
theorem five {α : Type} {l : List α} (h : l.length = 5) : ∃ a b c d e, l = [a, b, c, d, e] := by
  match l, h with
  | [a, b, c, d, e], _ => exact ⟨a, b, c, d, e, rfl⟩
theorem scal_out0 : (rowS out0).all scalV = true := by kernel_rfl
theorem pos_out0 : 0 < (rowS out0).length := by decide
theorem sx_len : (countT l0 out0).length = 16 := countT_len _ _
theorem sixteen {l : List Int} (h : l.length = 16) : ((((l.map intD).length : Nat) : Int) == 16) = true := by rw [List.length_map, h]; rfl
theorem fitS : fitB 2 (stormT 2 9 5) = true := decide_eq_true (storm_fit (n := 2) (s := 9) (by decide) (by decide))
attribute [local irreducible] layT textT parseT stormT countT fitB
set_option maxRecDepth 20000 in
set_option maxHeartbeats 8000000 in
theorem awake13_D : DPure Tryd.prog 13 [] (bl true) := by
  have h14 : DFun Tryd.prog 14 [int1 2, stps l0, mxs [m0], u64 0] fun r s => r = .arr 0 4 ∧ s = .of [(0, ⟨34, 6, rowS out0⟩)] 1 := by
    have := lay14_O 2 [m0] l0 0 (m0_fit (by decide)) (by decide)
    rw [lay0] at this
    exact this
  have h18 : DPure Tryd.prog 18 [strV s1] (.tup [mxs [m0], .agg [int1 0, int1 0]]) := by
    have := parse18_D s1 (by decide)
    rw [parse0] at this
    exact this
  obtain ⟨a, b, c, d, e, hS⟩ := five storm_len
  have h22 : DPure Tryd.prog 22 [int1 2, int1 9, u64 5] (mxs [a, b, c, d, e]) := by
    have := storm22_A 2 9 5
    rw [hS] at this
    exact this
  have h8 : DPure Tryd.prog 8 [int1 2, mxs [a, b, c, d, e]] (bl true) := by
    have := fit8_D 2 [a, b, c, d, e]
    rw [show fitB 2 [a, b, c, d, e] = true by rw [← hS]; exact fitS] at this
    exact this
  have h15 : DPure Tryd.prog 15 [stps out0, stps out0] (bl true) := by
    have := steps_D out0 out0
    rw [decide_eq_true rfl] at this
    exact this
  have h17 : DPure Tryd.prog 17 [mxs [m0], mxs [m0]] (bl true) := by
    have := same_D [m0] [m0]
    rw [decide_eq_true rfl] at this
    exact this
  have h20 : DPure Tryd.prog 20 [mxs [m0]] (strV s1) := by
    have := text20_D [m0]
    rw [text0] at this
    exact this
  have h11 := count11_D l0 out0 (by decide) (by decide)
  refine DFun.data (DFun.body Tryd.func13 rfl (by kernel_rfl) ?_)
  repeat' (first | with_reducible rfl | ((conv => whnf); first | refine And.intro ?_ ?_ | (intro h; first | with_reducible exact tf_no h | with_reducible exact ft_no h | exact Bool.noConfusion h | with_reducible exact h | (have ht : true = true := h; clear ht h) | skip) | ((with_reducible refine DWl.mark ?_); repeat' (first | refine DWl.cons ?_ ?_ | exact DWl.nil | exact DW.same _ rfl | exact DW.ref _ _ _ rfl | exact DW.arr _ _ _ rfl | exact DW.sub _ _ _ _ rfl | exact DW.nilLst _ | refine DW.aggl ?_ | refine DW.tupl ?_ | refine DW.clol ?_ ?_ | exact DW.pubM (l := l0) rfl rfl rfl rfl (stpsRow _) rfl | exact DW.pubM (l := [m0]) rfl rfl rfl rfl (mxsRow _) rfl | exact DW.pubM (l := out0) rfl rfl rfl rfl (stpsRow _) rfl | exact DW.pubG (l := l0) rfl rfl rfl rfl rfl (stpsRow _) rfl | exact DW.pubG (l := out0) rfl rfl rfl rfl rfl (stpsRow _) rfl | refine DW.int ?_ | refine DW.bool ?_ | refine DW.str ?_)) | ((with_reducible refine SCall.mark ?_); first | refine SCall.fresh h14 ?_ scal_out0 pos_out0 ?_ | refine SCall.data (h18) rfl rfl ?_ | refine SCall.scal (h18) rfl rfl ?_ | refine SCall.data (h22) rfl rfl ?_ | refine SCall.scal (h22) rfl rfl ?_ | refine SCall.data (h8) rfl rfl ?_ | refine SCall.scal (h8) rfl rfl ?_ | (refine SCall.scalT (h15) ?dwq rfl ?_; case dwq => (repeat' (first | refine DWl.cons ?_ ?_ | exact DWl.nil | exact DW.same _ rfl | exact DW.ref _ _ _ rfl | exact DW.arr _ _ _ rfl | exact DW.sub _ _ _ _ rfl | exact DW.nilLst _ | refine DW.aggl ?_ | refine DW.tupl ?_ | refine DW.clol ?_ ?_ | exact DW.pubM (l := l0) rfl rfl rfl rfl (stpsRow _) rfl | exact DW.pubM (l := [m0]) rfl rfl rfl rfl (mxsRow _) rfl | exact DW.pubM (l := out0) rfl rfl rfl rfl (stpsRow _) rfl | exact DW.pubG (l := l0) rfl rfl rfl rfl rfl (stpsRow _) rfl | exact DW.pubG (l := out0) rfl rfl rfl rfl rfl (stpsRow _) rfl | refine DW.int ?_ | refine DW.bool ?_ | refine DW.str ?_))) | (refine SCall.scalT (h17) ?dwq rfl ?_; case dwq => (repeat' (first | refine DWl.cons ?_ ?_ | exact DWl.nil | exact DW.same _ rfl | exact DW.ref _ _ _ rfl | exact DW.arr _ _ _ rfl | exact DW.sub _ _ _ _ rfl | exact DW.nilLst _ | refine DW.aggl ?_ | refine DW.tupl ?_ | refine DW.clol ?_ ?_ | exact DW.pubM (l := l0) rfl rfl rfl rfl (stpsRow _) rfl | exact DW.pubM (l := [m0]) rfl rfl rfl rfl (mxsRow _) rfl | exact DW.pubM (l := out0) rfl rfl rfl rfl (stpsRow _) rfl | exact DW.pubG (l := l0) rfl rfl rfl rfl rfl (stpsRow _) rfl | exact DW.pubG (l := out0) rfl rfl rfl rfl rfl (stpsRow _) rfl | refine DW.int ?_ | refine DW.bool ?_ | refine DW.str ?_))) | (refine SCall.scalT (h20) ?dwq rfl ?_; case dwq => (repeat' (first | refine DWl.cons ?_ ?_ | exact DWl.nil | exact DW.same _ rfl | exact DW.ref _ _ _ rfl | exact DW.arr _ _ _ rfl | exact DW.sub _ _ _ _ rfl | exact DW.nilLst _ | refine DW.aggl ?_ | refine DW.tupl ?_ | refine DW.clol ?_ ?_ | exact DW.pubM (l := l0) rfl rfl rfl rfl (stpsRow _) rfl | exact DW.pubM (l := [m0]) rfl rfl rfl rfl (mxsRow _) rfl | exact DW.pubM (l := out0) rfl rfl rfl rfl (stpsRow _) rfl | exact DW.pubG (l := l0) rfl rfl rfl rfl rfl (stpsRow _) rfl | exact DW.pubG (l := out0) rfl rfl rfl rfl rfl (stpsRow _) rfl | refine DW.int ?_ | refine DW.bool ?_ | refine DW.str ?_)))) | ((with_reducible refine PCall.mark ?_); first | refine PCall.mk (h18) rfl rfl ?_ | refine PCall.mk (h22) rfl rfl ?_ | refine PCall.mk (h8) rfl rfl ?_) | ((with_reducible refine GCall.mark ?_); first | refine GCall.data (fun _ => h18) rfl rfl ?_ | refine GCall.scal (fun _ => h18) rfl rfl ?_ | refine GCall.data (fun _ => h22) rfl rfl ?_ | refine GCall.scal (fun _ => h22) rfl rfl ?_ | refine GCall.data (fun _ => h8) rfl rfl ?_ | refine GCall.scal (fun _ => h8) rfl rfl ?_ | (refine GCall.scalT (fun _ => h15) ?dwq rfl ?_; case dwq => (intro _; repeat' (first | refine DWl.cons ?_ ?_ | exact DWl.nil | exact DW.same _ rfl | exact DW.ref _ _ _ rfl | exact DW.arr _ _ _ rfl | exact DW.sub _ _ _ _ rfl | exact DW.nilLst _ | refine DW.aggl ?_ | refine DW.tupl ?_ | refine DW.clol ?_ ?_ | exact DW.pubM (l := l0) rfl rfl rfl rfl (stpsRow _) rfl | exact DW.pubM (l := [m0]) rfl rfl rfl rfl (mxsRow _) rfl | exact DW.pubM (l := out0) rfl rfl rfl rfl (stpsRow _) rfl | exact DW.pubG (l := l0) rfl rfl rfl rfl rfl (stpsRow _) rfl | exact DW.pubG (l := out0) rfl rfl rfl rfl rfl (stpsRow _) rfl | refine DW.int ?_ | refine DW.bool ?_ | refine DW.str ?_))) | (refine GCall.scalT (fun _ => h17) ?dwq rfl ?_; case dwq => (intro _; repeat' (first | refine DWl.cons ?_ ?_ | exact DWl.nil | exact DW.same _ rfl | exact DW.ref _ _ _ rfl | exact DW.arr _ _ _ rfl | exact DW.sub _ _ _ _ rfl | exact DW.nilLst _ | refine DW.aggl ?_ | refine DW.tupl ?_ | refine DW.clol ?_ ?_ | exact DW.pubM (l := l0) rfl rfl rfl rfl (stpsRow _) rfl | exact DW.pubM (l := [m0]) rfl rfl rfl rfl (mxsRow _) rfl | exact DW.pubM (l := out0) rfl rfl rfl rfl (stpsRow _) rfl | exact DW.pubG (l := l0) rfl rfl rfl rfl rfl (stpsRow _) rfl | exact DW.pubG (l := out0) rfl rfl rfl rfl rfl (stpsRow _) rfl | refine DW.int ?_ | refine DW.bool ?_ | refine DW.str ?_))) | (refine GCall.scalT (fun _ => h20) ?dwq rfl ?_; case dwq => (intro _; repeat' (first | refine DWl.cons ?_ ?_ | exact DWl.nil | exact DW.same _ rfl | exact DW.ref _ _ _ rfl | exact DW.arr _ _ _ rfl | exact DW.sub _ _ _ _ rfl | exact DW.nilLst _ | refine DW.aggl ?_ | refine DW.tupl ?_ | refine DW.clol ?_ ?_ | exact DW.pubM (l := l0) rfl rfl rfl rfl (stpsRow _) rfl | exact DW.pubM (l := [m0]) rfl rfl rfl rfl (mxsRow _) rfl | exact DW.pubM (l := out0) rfl rfl rfl rfl (stpsRow _) rfl | exact DW.pubG (l := l0) rfl rfl rfl rfl rfl (stpsRow _) rfl | exact DW.pubG (l := out0) rfl rfl rfl rfl rfl (stpsRow _) rfl | refine DW.int ?_ | refine DW.bool ?_ | refine DW.str ?_))) | refine GCall.split (fun _ => SCall.tell [0, 2] h11 ?_ rfl rfl ?_) ?_) | ((with_reducible refine MCall.mark ?_); first | refine MCall.data (fun _ => h18) rfl rfl ?_ | refine MCall.plain (PCall.mk (h18) rfl rfl ?_) | refine MCall.data (fun _ => h22) rfl rfl ?_ | refine MCall.plain (PCall.mk (h22) rfl rfl ?_) | refine MCall.data (fun _ => h8) rfl rfl ?_ | refine MCall.plain (PCall.mk (h8) rfl rfl ?_)) | ((with_reducible refine ex_mark ?_); first | refine dq_eql k39 ?_ rfl ?_ rfl rfl ?_ | refine dq_neq k39 ?_ rfl ?_ rfl rfl ?_) | ((with_reducible refine ECall.mark ?_); first | refine ECall.only ?_ (fun h => nomatch h) | refine ECall.only ?_ ?_) | ((with_reducible refine Drawn.mark ?_); first | refine Drawn.quiet (by kernel_rfl) ?_) | refine dcell_ok rfl ?_ | refine AppC.new ?_))
  all_goals first | (with_reducible refine enters_mark ?_; kernel_rfl) | (with_reducible refine boolT_mark ?_; kernel_rfl) | rfl | trivial | assumption | exact Nat.le_of_ble_eq_true rfl | (show entersB _ _ = true; kernel_rfl) | exact DW.same _ rfl | exact DW.ref _ _ _ rfl | exact DW.arr _ _ _ rfl | refine DW.int ?_ | refine dvb ?_ | refine dvi ?_ | exact OW.cells rfl rfl (DWl.same rfl) | exact Nat.zero_le _ | omega | skip
  all_goals repeat' (first | refine OW.cells rfl rfl ?_ | exact DW.nilArr _ rfl | refine DWl.cons ?_ ?_ | exact DWl.nil | exact DW.same _ rfl | exact DW.ref _ _ _ rfl | exact DW.arr _ _ _ rfl | exact DW.sub _ _ _ _ rfl | exact DW.nilLst _ | refine DW.aggl ?_ | refine DW.tupl ?_ | refine DW.clol ?_ ?_ | exact DW.pubM (l := l0) rfl rfl rfl rfl (stpsRow _) rfl | exact DW.pubM (l := [m0]) rfl rfl rfl rfl (mxsRow _) rfl | exact DW.pubM (l := out0) rfl rfl rfl rfl (stpsRow _) rfl | exact DW.pubG (l := l0) rfl rfl rfl rfl rfl (stpsRow _) rfl | exact DW.pubG (l := out0) rfl rfl rfl rfl rfl (stpsRow _) rfl)
  all_goals try ((conv => whnf); with_reducible first | refine Round.mark ?_ | refine Tells.mark ?_ | refine Retold.mark ?_)
  all_goals try first | (show (_ : Bool) = _; simp_all; done) | (show (_ : Int) < _; simp at *; omega) | (show (_ : Int) ≤ _; simp at *; omega) | (show (_ : Nat) < _; simp at *; omega) | (show (_ : Nat) ≤ _; simp at *; omega)
  conv => whnf
  exact Tells.mk (DW.bool (sixteen sx_len))
end Go.Proofs.YtgaghkchdiepoaaDoor

/- What ChaosStorms and ChaosFits compute. -/
namespace Go.Proofs.YtgaghkchdiepoaaDoor
open Go.RowKit Go.Dl
attribute [local irreducible] Tri SCall TSem ECall Drawn DFun QSem PSem PCall GCall MCall Round Weak dloadE OW DWl Tells IntKind.wrap Retold ESem
theorem storm_or (n s x : Int) : stormT n s x = [] ∨ FitP n (stormT n s x) := by
  by_cases h : n < 1 ∨ 16 < n ∨ s < 1 ∨ 1048576 < s
  · exact .inl (by rw [stormT, if_pos h])
  · exact .inr (storm_fit (by omega) (by omega))
theorem storm_ok {n s x : Int} : (bif ((((stormT n s x).map mxD).length : Nat) : Int) == 0 then true else fitB n (stormT n s x)) = true := by
  rcases storm_or n s x with h | h
  · rw [h]; rfl
  · rw [show fitB n (stormT n s x) = true from decide_eq_true h]
    cases ((((stormT n s x).map mxD).length : Nat) : Int) == 0 <;> rfl
attribute [local irreducible] stormT fitB countT
set_option maxRecDepth 20000 in
theorem storms6_D (n s x : Int) : DPure Tryd.prog 6 [int1 n, int1 s, u64 x] (bl true) := by
  have h17 : DPure Tryd.prog 17 [mxs (stormT n s x), mxs (stormT n s x)] (bl true) := by
    have := same_D (stormT n s x) (stormT n s x)
    rw [decide_eq_true rfl] at this
    exact this
  refine DFun.data (DFun.body Tryd.func6 rfl (by kernel_rfl) ?_)
  repeat' (first | with_reducible rfl | ((conv => whnf); first | refine And.intro ?_ ?_ | (intro h; first | with_reducible exact tf_no h | with_reducible exact ft_no h | exact Bool.noConfusion h | with_reducible exact h | (have ht : true = true := h; clear ht h) | skip) | ((with_reducible refine DWl.mark ?_); repeat' (first | refine DWl.cons ?_ ?_ | exact DWl.nil | exact DW.same _ rfl | exact DW.ref _ _ _ rfl | exact DW.arr _ _ _ rfl | exact DW.sub _ _ _ _ rfl | exact DW.nilLst _ | refine DW.aggl ?_ | refine DW.tupl ?_ | refine DW.clol ?_ ?_ | refine DW.int ?_ | refine DW.bool ?_ | refine DW.str ?_)) | ((with_reducible refine SCall.mark ?_); first | refine SCall.data (storm22_A n s x) rfl rfl ?_ | refine SCall.scal (storm22_A n s x) rfl rfl ?_ | refine SCall.data (storm23_D n s x) rfl rfl ?_ | refine SCall.scal (storm23_D n s x) rfl rfl ?_ | refine SCall.data (h17) rfl rfl ?_ | refine SCall.scal (h17) rfl rfl ?_ | refine SCall.data (fit8_D n (stormT n s x)) rfl rfl ?_ | refine SCall.scal (fit8_D n (stormT n s x)) rfl rfl ?_ | refine SCall.data (awake13_D) rfl rfl ?_ | refine SCall.scal (awake13_D) rfl rfl ?_) | ((with_reducible refine PCall.mark ?_); first | refine PCall.mk (storm22_A n s x) rfl rfl ?_ | refine PCall.mk (storm23_D n s x) rfl rfl ?_ | refine PCall.mk (h17) rfl rfl ?_ | refine PCall.mk (fit8_D n (stormT n s x)) rfl rfl ?_ | refine PCall.mk (awake13_D) rfl rfl ?_) | ((with_reducible refine GCall.mark ?_); first | refine GCall.data (fun _ => storm22_A n s x) rfl rfl ?_ | refine GCall.scal (fun _ => storm22_A n s x) rfl rfl ?_ | refine GCall.data (fun _ => storm23_D n s x) rfl rfl ?_ | refine GCall.scal (fun _ => storm23_D n s x) rfl rfl ?_ | refine GCall.data (fun _ => h17) rfl rfl ?_ | refine GCall.scal (fun _ => h17) rfl rfl ?_ | refine GCall.data (fun _ => fit8_D n (stormT n s x)) rfl rfl ?_ | refine GCall.scal (fun _ => fit8_D n (stormT n s x)) rfl rfl ?_ | refine GCall.data (fun _ => awake13_D) rfl rfl ?_ | refine GCall.scal (fun _ => awake13_D) rfl rfl ?_) | ((with_reducible refine MCall.mark ?_); first | refine MCall.data (fun _ => storm22_A n s x) rfl rfl ?_ | refine MCall.plain (PCall.mk (storm22_A n s x) rfl rfl ?_) | refine MCall.data (fun _ => storm23_D n s x) rfl rfl ?_ | refine MCall.plain (PCall.mk (storm23_D n s x) rfl rfl ?_) | refine MCall.data (fun _ => h17) rfl rfl ?_ | refine MCall.plain (PCall.mk (h17) rfl rfl ?_) | refine MCall.data (fun _ => fit8_D n (stormT n s x)) rfl rfl ?_ | refine MCall.plain (PCall.mk (fit8_D n (stormT n s x)) rfl rfl ?_) | refine MCall.data (fun _ => awake13_D) rfl rfl ?_ | refine MCall.plain (PCall.mk (awake13_D) rfl rfl ?_)) | ((with_reducible refine ECall.mark ?_); first | refine ECall.only ?_ (fun h => nomatch h) | refine ECall.only ?_ ?_) | ((with_reducible refine Drawn.mark ?_); first | refine Drawn.quiet (by kernel_rfl) ?_) | refine dcell_ok rfl ?_ | refine AppC.new ?_))
  all_goals first | (with_reducible refine enters_mark ?_; kernel_rfl) | (with_reducible refine boolT_mark ?_; kernel_rfl) | rfl | trivial | assumption | exact Nat.le_of_ble_eq_true rfl | (show entersB _ _ = true; kernel_rfl) | exact DW.same _ rfl | exact DW.ref _ _ _ rfl | exact DW.arr _ _ _ rfl | refine DW.int ?_ | refine dvb ?_ | refine dvi ?_ | exact OW.cells rfl rfl (DWl.same rfl) | exact Nat.zero_le _ | omega | skip
  all_goals repeat' (first | refine OW.cells rfl rfl ?_ | exact DW.nilArr _ rfl | refine DWl.cons ?_ ?_ | exact DWl.nil | exact DW.same _ rfl | exact DW.ref _ _ _ rfl | exact DW.arr _ _ _ rfl | exact DW.sub _ _ _ _ rfl | exact DW.nilLst _ | refine DW.aggl ?_ | refine DW.tupl ?_ | refine DW.clol ?_ ?_)
  all_goals try ((conv => whnf); with_reducible first | refine Round.mark ?_ | refine Tells.mark ?_ | refine Retold.mark ?_)
  all_goals try first | (show (_ : Bool) = _; simp_all; done) | (show (_ : Int) < _; simp at *; omega) | (show (_ : Int) ≤ _; simp at *; omega) | (show (_ : Nat) < _; simp at *; omega) | (show (_ : Nat) ≤ _; simp at *; omega)
  conv => whnf
  exact Tells.mk (DW.bool (by have := storm_ok (n := n) (s := s) (x := x); simp_all))
set_option maxRecDepth 20000 in
theorem fits3_D (n : Int) (l : List Mx) (a b : List Stp) (ha : a.length ≤ 9223372036854775807) (hb : b.length ≤ 9223372036854775807) : DPure Tryd.prog 3 [int1 n, mxs l, stps a, stps b] (bl true) := by
  have h10 : DPure Tryd.prog 10 [ints (countT a b), ints (countT a b)] (bl true) := by
    have := ints_D (countT a b) (countT a b)
    rw [decide_eq_true rfl] at this
    exact this
  refine DFun.data (DFun.body Tryd.func3 rfl (by kernel_rfl) ?_)
  repeat' (first | with_reducible rfl | ((conv => whnf); first | refine And.intro ?_ ?_ | (intro h; first | with_reducible exact tf_no h | with_reducible exact ft_no h | exact Bool.noConfusion h | with_reducible exact h | (have ht : true = true := h; clear ht h) | skip) | ((with_reducible refine DWl.mark ?_); repeat' (first | refine DWl.cons ?_ ?_ | exact DWl.nil | exact DW.same _ rfl | exact DW.ref _ _ _ rfl | exact DW.arr _ _ _ rfl | exact DW.sub _ _ _ _ rfl | exact DW.nilLst _ | refine DW.aggl ?_ | refine DW.tupl ?_ | refine DW.clol ?_ ?_ | refine DW.int ?_ | refine DW.bool ?_ | refine DW.str ?_)) | ((with_reducible refine SCall.mark ?_); first | refine SCall.data (fit8_D n l) rfl rfl ?_ | refine SCall.scal (fit8_D n l) rfl rfl ?_ | refine SCall.data (fit9_D n l) rfl rfl ?_ | refine SCall.scal (fit9_D n l) rfl rfl ?_ | refine SCall.data (count11_D a b ha hb) rfl rfl ?_ | refine SCall.scal (count11_D a b ha hb) rfl rfl ?_ | refine SCall.data (count12_D a b ha hb) rfl rfl ?_ | refine SCall.scal (count12_D a b ha hb) rfl rfl ?_ | refine SCall.data (h10) rfl rfl ?_ | refine SCall.scal (h10) rfl rfl ?_ | refine SCall.data (awake13_D) rfl rfl ?_ | refine SCall.scal (awake13_D) rfl rfl ?_) | ((with_reducible refine PCall.mark ?_); first | refine PCall.mk (fit8_D n l) rfl rfl ?_ | refine PCall.mk (fit9_D n l) rfl rfl ?_ | refine PCall.mk (count11_D a b ha hb) rfl rfl ?_ | refine PCall.mk (count12_D a b ha hb) rfl rfl ?_ | refine PCall.mk (h10) rfl rfl ?_ | refine PCall.mk (awake13_D) rfl rfl ?_) | ((with_reducible refine GCall.mark ?_); first | refine GCall.data (fun _ => fit8_D n l) rfl rfl ?_ | refine GCall.scal (fun _ => fit8_D n l) rfl rfl ?_ | refine GCall.data (fun _ => fit9_D n l) rfl rfl ?_ | refine GCall.scal (fun _ => fit9_D n l) rfl rfl ?_ | refine GCall.data (fun _ => count11_D a b ha hb) rfl rfl ?_ | refine GCall.scal (fun _ => count11_D a b ha hb) rfl rfl ?_ | refine GCall.data (fun _ => count12_D a b ha hb) rfl rfl ?_ | refine GCall.scal (fun _ => count12_D a b ha hb) rfl rfl ?_ | refine GCall.data (fun _ => h10) rfl rfl ?_ | refine GCall.scal (fun _ => h10) rfl rfl ?_ | refine GCall.data (fun _ => awake13_D) rfl rfl ?_ | refine GCall.scal (fun _ => awake13_D) rfl rfl ?_) | ((with_reducible refine MCall.mark ?_); first | refine MCall.data (fun _ => fit8_D n l) rfl rfl ?_ | refine MCall.plain (PCall.mk (fit8_D n l) rfl rfl ?_) | refine MCall.data (fun _ => fit9_D n l) rfl rfl ?_ | refine MCall.plain (PCall.mk (fit9_D n l) rfl rfl ?_) | refine MCall.data (fun _ => count11_D a b ha hb) rfl rfl ?_ | refine MCall.plain (PCall.mk (count11_D a b ha hb) rfl rfl ?_) | refine MCall.data (fun _ => count12_D a b ha hb) rfl rfl ?_ | refine MCall.plain (PCall.mk (count12_D a b ha hb) rfl rfl ?_) | refine MCall.data (fun _ => h10) rfl rfl ?_ | refine MCall.plain (PCall.mk (h10) rfl rfl ?_) | refine MCall.data (fun _ => awake13_D) rfl rfl ?_ | refine MCall.plain (PCall.mk (awake13_D) rfl rfl ?_)) | ((with_reducible refine ECall.mark ?_); first | refine ECall.only ?_ (fun h => nomatch h) | refine ECall.only ?_ ?_) | ((with_reducible refine Drawn.mark ?_); first | refine Drawn.quiet (by kernel_rfl) ?_) | refine dcell_ok rfl ?_ | refine AppC.new ?_))
  all_goals first | (with_reducible refine enters_mark ?_; kernel_rfl) | (with_reducible refine boolT_mark ?_; kernel_rfl) | rfl | trivial | assumption | exact Nat.le_of_ble_eq_true rfl | (show entersB _ _ = true; kernel_rfl) | exact DW.same _ rfl | exact DW.ref _ _ _ rfl | exact DW.arr _ _ _ rfl | refine DW.int ?_ | refine dvb ?_ | refine dvi ?_ | exact OW.cells rfl rfl (DWl.same rfl) | exact Nat.zero_le _ | omega | skip
  all_goals repeat' (first | refine OW.cells rfl rfl ?_ | exact DW.nilArr _ rfl | refine DWl.cons ?_ ?_ | exact DWl.nil | exact DW.same _ rfl | exact DW.ref _ _ _ rfl | exact DW.arr _ _ _ rfl | exact DW.sub _ _ _ _ rfl | exact DW.nilLst _ | refine DW.aggl ?_ | refine DW.tupl ?_ | refine DW.clol ?_ ?_)
  all_goals try ((conv => whnf); with_reducible first | refine Round.mark ?_ | refine Tells.mark ?_ | refine Retold.mark ?_)
  all_goals try first | (show (_ : Bool) = _; simp_all; done) | (show (_ : Int) < _; simp at *; omega) | (show (_ : Int) ≤ _; simp at *; omega) | (show (_ : Nat) < _; simp at *; omega) | (show (_ : Nat) ≤ _; simp at *; omega)
  conv => whnf
  exact Tells.mk (DW.bool (by simp))
end Go.Proofs.YtgaghkchdiepoaaDoor

/- Plans and steps, as they come in; what the rows' lists of variables give. -/
namespace Go.Proofs.YtgaghkchdiepoaaDoor
open Go.RowKit Go.Dl

theorem tab34 : fldTab Tryd.prog 34 = some [(3, 0, 1), (3, 1, 1), (3, 2, 1), (9, 3, 1), (3, 4, 1), (2, 5, 1)] := by kernel_rfl
theorem tab50 : fldTab Tryd.prog 50 = some [(3, 0, 1), (3, 1, 1), (3, 2, 1), (3, 3, 1), (3, 4, 1), (3, 5, 1)] := by kernel_rfl
theorem cells34 : Tryd.prog.cellsOf 34 = 6 := by kernel_rfl
theorem cells50 : Tryd.prog.cellsOf 50 = 6 := by kernel_rfl
theorem bytes34 : Tryd.prog.bytesOf 34 = 56 := by kernel_rfl
theorem bytes50 : Tryd.prog.bytesOf 50 = 48 := by kernel_rfl
theorem stp_row (r : List DV) (h : Shp Tryd.prog 34 r) : ∃ a : Stp, r = stpD a ∧ True := by
  obtain ⟨hl, h1, h2, h3, h4, h5, h6, _⟩ := Shp.struct_inv tab34 h
  rw [cells34] at hl
  match r, hl with
  | [a, b, c, d, e, f], _ =>
    obtain ⟨x1, e1, _⟩ := Shp.int_inv Tryd.underlying3 h1
    obtain ⟨x2, e2, _⟩ := Shp.int_inv Tryd.underlying3 h2
    obtain ⟨x3, e3, _⟩ := Shp.int_inv Tryd.underlying3 h3
    obtain ⟨x4, e4, _⟩ := Shp.str_inv Tryd.underlying9 h4
    obtain ⟨x5, e5, _⟩ := Shp.int_inv Tryd.underlying3 h5
    obtain ⟨x6, e6, _⟩ := Shp.int_inv Tryd.underlying2 h6
    cases e1; cases e2; cases e3; cases e4; cases e5; cases e6
    exact ⟨⟨x1, x2, x3, x4, x5, x6⟩, rfl, trivial⟩
theorem mx_row (r : List DV) (h : Shp Tryd.prog 50 r) : ∃ a : Mx, r = mxD a ∧ True := by
  obtain ⟨hl, h1, h2, h3, h4, h5, h6, _⟩ := Shp.struct_inv tab50 h
  rw [cells50] at hl
  match r, hl with
  | [a, b, c, d, e, f], _ =>
    obtain ⟨x1, e1, _⟩ := Shp.int_inv Tryd.underlying3 h1
    obtain ⟨x2, e2, _⟩ := Shp.int_inv Tryd.underlying3 h2
    obtain ⟨x3, e3, _⟩ := Shp.int_inv Tryd.underlying3 h3
    obtain ⟨x4, e4, _⟩ := Shp.int_inv Tryd.underlying3 h4
    obtain ⟨x5, e5, _⟩ := Shp.int_inv Tryd.underlying3 h5
    obtain ⟨x6, e6, _⟩ := Shp.int_inv Tryd.underlying3 h6
    cases e1; cases e2; cases e3; cases e4; cases e5; cases e6
    exact ⟨⟨x1, x2, x3, x4, x5, x6⟩, rfl, trivial⟩
set_option maxRecDepth 20000 in
theorem stps_arg {d : DV} (h : ShpV Tryd.prog 23 d) : ∃ l : List Stp, d = stps l ∧ l.length * 56 ≤ 140737488355328 := by
  obtain ⟨l, h1, h2, _⟩ := ShpV.slice_inv Tryd.underlying23 stp_row h
  rw [cells34] at h1
  rw [bytes34] at h2
  exact ⟨l, h1, Nat.le_trans h2 (Nat.le_of_ble_eq_true rfl)⟩
set_option maxRecDepth 20000 in
theorem mxs_arg {d : DV} (h : ShpV Tryd.prog 22 d) : ∃ l : List Mx, d = mxs l ∧ l.length * 48 ≤ 140737488355328 := by
  obtain ⟨l, h1, h2, _⟩ := ShpV.slice_inv Tryd.underlying22 mx_row h
  rw [cells50] at h1
  rw [bytes50] at h2
  exact ⟨l, h1, Nat.le_trans h2 (Nat.le_of_ble_eq_true rfl)⟩
theorem Tryd.own : ownKnob Tryd.prog.godebug = none := by kernel_rfl
theorem Tryd.laidOut : laidOutB Tryd.prog = true := by kernel_rfl
abbrev laidL : List (String × DataW Unit) := Rows.chaosFitsRow.laid
theorem gSynT : (Tryd.prog.globals[1]?).map (·.type) = some 96 := by kernel_rfl
theorem gRanT : (Tryd.prog.globals[2]?).map (·.type) = some 96 := by kernel_rfl
theorem gPowT : ∃ t, (Tryd.prog.globals[3]?).map (·.type) = some t ∧ Tryd.prog.underlying t = some (.array 20 30) ∧ Tryd.prog.cellsOf t = 20 := ⟨_, rfl, by kernel_rfl, by kernel_rfl⟩
def starN : String := match (Rows.laid_strconv_ErrRange : DataW Unit) with
  | .iface nm _ => nm
  | _ => powN
theorem row137 (u : TypeId) (h : Tryd.prog.typeName? 3 u = some starN) : u = 137 :=
  typeName_ptr_named (nm := "errors.errorString") (by kernel_rfl) (by kernel_rfl) (by decide) u (h.trans (congrArg some (by kernel_rfl)))
theorem cells139 : Tryd.prog.cellsOf 139 = 1 := by kernel_rfl
theorem cells9 : Tryd.prog.cellsOf 9 = 1 := by kernel_rfl
theorem cells30 : Tryd.prog.cellsOf 30 = 1 := by kernel_rfl
theorem plainL : (laidL.all fun x => x.2.handleName?.isNone) = true := by kernel_rfl
theorem gok_of {W : World} (hL : laidMetH Tryd.prog laidL W) (hsh : W.ShapedOpen Tryd.prog) : Gok W := by
  rw [MakeChecks.laidMetH_plain _ _ _ plainL] at hL
  obtain ⟨t, ht, hu, hc⟩ := gPowT
  have h2 := hL.tail.tail
  have h4 := h2.tail.tail
  have h5 := h4.tail
  obtain ⟨a1, s1, hv1, -, -, -⟩ := laid_sentinel h4 gRan gRanT Tryd.underlying96 row137 Tryd.underlying137 Tryd.underlying139 rfl rfl Tryd.underlying9 cells139 cells9
  obtain ⟨a0, s0, hv0, -, -, -⟩ := laid_sentinel h5 gSyn gSynT Tryd.underlying96 row137 Tryd.underlying137 Tryd.underlying139 rfl rfl Tryd.underlying9 cells139 cells9
  refine ⟨Tryd.laysSplit.s1_3 W hsh, ⟨_, _, hv0⟩, ⟨_, _, hv1⟩, ?_⟩
  exact Lib.tabIs_of_head (g := 3) (t := t) (e := 30) (n := 20) gPow ht hu Tryd.underlying30 cells30 hc h2
end Go.Proofs.YtgaghkchdiepoaaDoor
