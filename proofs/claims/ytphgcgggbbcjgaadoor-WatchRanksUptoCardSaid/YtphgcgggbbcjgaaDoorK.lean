/- Samples played: the document's. -/
import Derived.Test.YtphgcgggbbcjgaaDoorJ
namespace Go.Proofs.YtphgcgggbbcjgaaDoor
open Go.RowKit Go.Dl
attribute [local irreducible] Tri SCall DFun QSem PSem PCall GCall MCall Round Weak dloadE OW DWl Tells IntKind.wrap Retold ESem
theorem _root_.Go.Dl.DWl.eq {ρ : Nat → Option Nat} {s : Sto} {pub : Nat → Prop} {X Y : List DV} (h : X = Y) (hall : Y.all noId1 = true) : DWl ρ s pub X Y := by rw [h]; exact DWl.same hall
def rowN (l : List Nt) : List DV := (l.map ntD).flatten
theorem rowN_cons (x : Nt) (l : List Nt) : rowN (x :: l) = ntD x ++ rowN l := rfl
theorem rowN_append (l m : List Nt) : rowN (l ++ m) = rowN l ++ rowN m := by simp [rowN]
theorem rowN_len (l : List Nt) : (rowN l).length = l.length * 2 := by
  induction l with
  | nil => rfl
  | cons a l ih => rw [rowN_cons, List.length_append, ih]; simp [ntD]; omega
theorem rowN_all (l : List Nt) : (rowN l).all noId1 = true := by
  induction l with
  | nil => rfl
  | cons a l ih => rw [rowN_cons, List.all_append, ih]; rfl
theorem rowN_push (l : List Nt) (a b : Int) : (rowN l).take (l.length * 2) ++ [int1 a, int1 b] = rowN (l ++ [(a, b)]) := by
  rw [List.take_of_length_le (by rw [rowN_len]; exact Nat.le_refl _), rowN_append]; rfl
theorem ntsRow (l : List Nt) : ∀ r ∈ l.map ntD, r.length = 2 ∧ r.all isData1 = true := by
  intro r hr
  obtain ⟨x, _, rfl⟩ := List.mem_map.1 hr
  exact ⟨rfl, rfl⟩
theorem rowN_eq (l : List Nt) : rowN l = (l.map ntD).flatten := rfl
theorem pl_skip {a : Al} {x : Wt × List Nt} {m : Sm} (h : (!sampleB m) = true) : play1 a x m = x := by
  rw [play1, if_neg (by intro e; rw [e] at h; cases h)]
theorem pl_note {a : Al} {x : Wt × List Nt} {m : Sm} (h : (!sampleB m) = false) (h2 : ((takeT a x.1 m).2 != 0) = true) : play1 a x m = ((takeT a x.1 m).1, x.2 ++ [(m.tick, (takeT a x.1 m).2)]) := by
  rw [play1, if_pos (pb h), if_neg (by simpa using h2)]
theorem pl_none {a : Al} {x : Wt × List Nt} {m : Sm} (h : (!sampleB m) = false) (h2 : ((takeT a x.1 m).2 != 0) = false) : play1 a x m = ((takeT a x.1 m).1, x.2) := by
  rw [play1, if_pos (pb h), if_pos (by simpa using h2)]
def stepI (a : Al) (l : List Sm) (i : Nat × Wt × List Nt) (x : Wt × List Nt) : Nat × Wt × List Nt := (i.1 + 1, x)
theorem step_pre {a : Al} {l : List Sm} {i : Nat × Wt × List Nt} {x : Wt × List Nt} (hi : i.1 ≤ l.length ∧ i.2 = playK a l i.1) (hlt : i.1 < l.length) (h : play1 a i.2 (l.getD ((i.1 : Nat) : Int).toNat sm0) = x) : i.1 + 1 ≤ l.length ∧ x = playK a l (i.1 + 1) := by
  refine ⟨hlt, ?_⟩
  rw [Int.toNat_natCast] at h
  rw [play_succ hlt, ← hi.2, h]
theorem pn_len {a : Al} {l : List Sm} {i : Nat × Wt × List Nt} (hi : i.1 ≤ l.length ∧ i.2 = playK a l i.1) : i.2.2.length ≤ l.length := by
  rw [hi.2]
  exact Nat.le_trans (play_len a l i.1) hi.1
theorem pushLen (P : List Nt) (x : Nt) : P.length + 1 = (P ++ [x]).length := by simp
theorem alD_all (a : Al) : (alD a).all noId1 = true := rfl
theorem wtD_all (s : Wt) : (wtD s).all noId1 = true := rfl
theorem rowN_zero : rowN [] = [] := rfl
set_option maxRecDepth 20000 in
theorem rn_b1 (P : List Nt) : P.length * Tryd.prog.types[58].size ≤ (rowN P).length := by
  show P.length * 2 ≤ _
  rw [rowN_len]; exact Nat.le_refl _
set_option maxRecDepth 20000 in
theorem rn_b2 {P : List Nt} {n : Nat} (h : P.length ≤ n) (hl : n * 24 ≤ 140737488355328) : (P.length + 1) * Tryd.prog.types[58].bytes ≤ 140737488355328 := by
  show (P.length + 1) * 16 ≤ _
  omega
theorem rn_b3 {P : List Nt} {n : Nat} (h : P.length ≤ n) (hl : n * 24 ≤ 140737488355328) : P.length + 1 ≤ maxLen := by simp only [maxLen]; omega
theorem pl_zero (a : Al) (l : List Sm) : (wt0, ([] : List Nt)) = playK a l 0 := rfl
def playSt (a : Al) (l : List Sm) (i : Nat × Wt × List Nt) : St := ⟨0, tmOf [(1, sms l), (2, .ref 0 0), (4, .ref 1 0), (6, .ref 2 0), (7, .arr 3 i.2.2.length), (8, int1 i.1)], .of [(0, ⟨23, 4, alD a⟩), (1, ⟨25, 6, wtD wt0⟩), (2, ⟨25, 6, wtD i.2.1⟩), (3, ⟨58, 2, rowN i.2.2⟩)] 4⟩
attribute [local irreducible] takeT sampleB playK rowN
set_option maxRecDepth 20000 in
theorem play17_D (a : Al) (l : List Sm) (hl : l.length * 24 ≤ 140737488355328) : DPure Tryd.prog 17 [.agg (alD a), sms l] (.tup [.agg (wtD (playT a l).1), nts (playT a l).2]) := by
  refine DFun.data (DFun.body Tryd.func17 rfl (by kernel_rfl) ?_)
  repeat' (first | with_reducible rfl | ((conv => whnf); first | refine And.intro ?_ ?_ | (intro h; first | exact Bool.noConfusion h | with_reducible exact h | (have ht : true = true := h; clear ht h) | skip) | ((with_reducible refine DWl.mark ?_); repeat' (first | refine DWl.cons ?_ ?_ | exact DWl.nil | exact DW.same _ rfl | exact DW.ref _ _ _ rfl | exact DW.arr _ _ _ rfl | exact DW.sub _ _ _ _ rfl | exact DW.nilLst _ | refine DW.aggl ?_ | refine DW.tupl ?_ | refine DW.clol ?_ ?_ | refine DW.int ?_ | refine DW.bool ?_ | refine DW.str ?_)) | ((with_reducible refine SCall.mark ?_); first | refine SCall.data (sample11_D _) rfl rfl ?_ | refine SCall.scal (sample11_D _) rfl rfl ?_ | refine SCall.data (take14_D _ _ _) rfl rfl ?_ | refine SCall.scal (take14_D _ _ _) rfl rfl ?_) | ((with_reducible refine PCall.mark ?_); first | refine PCall.mk (sample11_D _) rfl rfl ?_ | refine PCall.mk (take14_D _ _ _) rfl rfl ?_) | ((with_reducible refine GCall.mark ?_); first | refine GCall.data (fun _ => sample11_D _) rfl rfl ?_ | refine GCall.scal (fun _ => sample11_D _) rfl rfl ?_ | refine GCall.data (fun _ => take14_D _ _ _) rfl rfl ?_ | refine GCall.scal (fun _ => take14_D _ _ _) rfl rfl ?_) | ((with_reducible refine MCall.mark ?_); first | refine MCall.data (fun _ => sample11_D _) rfl rfl ?_ | refine MCall.plain (PCall.mk (sample11_D _) rfl rfl ?_) | refine MCall.data (fun _ => take14_D _ _ _) rfl rfl ?_ | refine MCall.plain (PCall.mk (take14_D _ _ _) rfl rfl ?_)) | ((with_reducible refine Tri.mark ?_); first | refine Tri.loop (playSt a l) (fun i => i.1 ≤ l.length ∧ i.2 = playK a l i.1) (fun i => l.length - i.1) ((0, wt0, [])) (by kernel_rfl) (Weak.list [(0, some 0), (1, some 1), (2, some 2), (3, none)] [] ?_ ?_ ?_) ?_ ?_ | (refine Tri.tree [4] (MT.mv true 0 (MT.mv true 1 (MT.mv true 2 (MT.mv true 3 (MT.mv true 4 (MT.mv true 5 (MT.two 6 (MT.mv true 7 (MT.mv true 8 (MT.mv true 9 (MT.mv false 10 (MT.mv false 11 (MT.mv true 12 MT.done)))))) 10 (MT.mv false 6 (MT.mv true 7 (MT.mv true 8 (MT.mv true 9 (MT.mv false 11 (MT.mv true 12 MT.done))))))))))))) ?_ (by kernel_rfl) ?_; rfl)) | refine dloadE_map (sm0) ?_ ?_ | refine dcell_ok rfl ?_ | refine AppC.new ?_))
  all_goals first | (with_reducible refine enters_mark ?_; kernel_rfl) | (with_reducible refine boolT_mark ?_; kernel_rfl) | rfl | trivial | assumption | exact Nat.le_of_ble_eq_true rfl | (show entersB _ _ = true; kernel_rfl) | exact DW.same _ rfl | exact DW.ref _ _ _ rfl | exact DW.arr _ _ _ rfl | refine DW.int ?_ | refine dvb ?_ | refine dvi ?_ | exact OW.cells rfl rfl (DWl.same rfl) | exact Nat.zero_le _ | omega | skip
  all_goals repeat' (first | refine OW.cells rfl rfl ?_ | exact DW.nilArr _ rfl | refine DWl.cons ?_ ?_ | exact DWl.nil | exact DW.same _ rfl | exact DW.ref _ _ _ rfl | exact DW.arr _ _ _ rfl | exact DW.sub _ _ _ _ rfl | exact DW.nilLst _ | refine DW.aggl ?_ | refine DW.tupl ?_ | refine DW.clol ?_ ?_)
  all_goals try ((conv => whnf); with_reducible first | refine Round.mark ?_ | refine Tells.mark ?_ | refine Retold.mark ?_)
  all_goals try first | (show (_ : Bool) = _; simp_all; done) | (show (_ : Int) < _; simp at *; omega) | (show (_ : Int) ≤ _; simp at *; omega) | (show (_ : Nat) < _; simp at *; omega) | (show (_ : Nat) ≤ _; simp at *; omega)
  · conv => whnf
    exact rowN_zero
  · exact pl_zero a l
  · rename_i i hi e1
    have hlt := lt_of_test ‹decide ((i.1 : Int) < ((l.map smD).length : Nat)) = true›
    have e4 := step_pre hi hlt (pl_skip h)
    refine Round.go (fun _ => (i.1 + 1, i.2)) e4 (by show l.length - (i.1 + 1) < l.length - i.1; omega) (Weak.list [(0, some 0), (1, some 1), (2, some 2), (3, some 3)] [] (by kernel_rfl) ?_ ?_)
    · repeat' (first | exact wsucc hlt (by omega) | exact DWl.eq (rfl : alD a = alD a) (alD_all a) | exact DWl.eq (rfl : wtD wt0 = wtD wt0) (wtD_all _) | exact DWl.eq (rfl : wtD i.2.1 = wtD i.2.1) (wtD_all _) | exact DWl.eq (rfl : wtD (takeT a i.2.1 (l.getD ((i.1 : Nat) : Int).toNat sm0)).1 = wtD (takeT a i.2.1 (l.getD ((i.1 : Nat) : Int).toNat sm0)).1) (wtD_all _) | exact DWl.eq (rfl : rowN i.2.2 = rowN i.2.2) (rowN_all _) | exact DW.same _ rfl | exact DW.ref _ _ _ rfl | exact DW.arr _ _ _ rfl | exact OW.cells rfl rfl (DWl.same rfl) | refine OW.cells rfl rfl ?_ | refine DWl.cons ?_ ?_ | exact DWl.nil | exact DW.nilArr _ rfl | exact DW.nilLst _ | refine DW.clol ?_ ?_ | refine DW.aggl ?_ | refine DW.tupl ?_ | refine DW.int ?_ | refine DW.bool ?_ | refine DW.str ?_ | refine DW.arrE rfl ?_ | ((conv => whnf); first | refine And.intro ?_ ?_ | trivial))
    · repeat' (first | exact wsucc hlt (by omega) | exact DWl.eq (rfl : alD a = alD a) (alD_all a) | exact DWl.eq (rfl : wtD wt0 = wtD wt0) (wtD_all _) | exact DWl.eq (rfl : wtD i.2.1 = wtD i.2.1) (wtD_all _) | exact DWl.eq (rfl : wtD (takeT a i.2.1 (l.getD ((i.1 : Nat) : Int).toNat sm0)).1 = wtD (takeT a i.2.1 (l.getD ((i.1 : Nat) : Int).toNat sm0)).1) (wtD_all _) | exact DWl.eq (rfl : rowN i.2.2 = rowN i.2.2) (rowN_all _) | exact DW.same _ rfl | exact DW.ref _ _ _ rfl | exact DW.arr _ _ _ rfl | exact OW.cells rfl rfl (DWl.same rfl) | refine OW.cells rfl rfl ?_ | refine DWl.cons ?_ ?_ | exact DWl.nil | exact DW.nilArr _ rfl | exact DW.nilLst _ | refine DW.clol ?_ ?_ | refine DW.aggl ?_ | refine DW.tupl ?_ | refine DW.int ?_ | refine DW.bool ?_ | refine DW.str ?_ | refine DW.arrE rfl ?_ | ((conv => whnf); first | refine And.intro ?_ ?_ | trivial))
  · exact rn_b1 _
  · exact rn_b2 (pn_len (by assumption)) hl
  · exact rn_b3 (pn_len (by assumption)) hl
  · rename_i i hi e0 e1
    have hlt := lt_of_test ‹decide ((i.1 : Int) < ((l.map smD).length : Nat)) = true›
    have e4 := step_pre hi hlt (pl_note e1 h)
    refine Round.go (fun _ => (i.1 + 1, (takeT a i.2.1 (l.getD ((i.1 : Nat) : Int).toNat sm0)).1, i.2.2 ++ [((l.getD ((i.1 : Nat) : Int).toNat sm0).tick, (takeT a i.2.1 (l.getD ((i.1 : Nat) : Int).toNat sm0)).2)])) e4 (by show l.length - (i.1 + 1) < l.length - i.1; omega) (Weak.list [(0, some 0), (1, some 1), (2, some 2), (3, some 6)] [] (by kernel_rfl) ?_ ?_)
    · repeat' (first | exact wsucc hlt (by omega) | exact DWl.eq (rfl : alD a = alD a) (alD_all a) | exact DWl.eq (rfl : wtD wt0 = wtD wt0) (wtD_all _) | exact DWl.eq (rfl : wtD i.2.1 = wtD i.2.1) (wtD_all _) | exact DWl.eq (rfl : wtD (takeT a i.2.1 (l.getD ((i.1 : Nat) : Int).toNat sm0)).1 = wtD (takeT a i.2.1 (l.getD ((i.1 : Nat) : Int).toNat sm0)).1) (wtD_all _) | exact DWl.eq (rowN_push i.2.2 (l.getD ((i.1 : Nat) : Int).toNat sm0).tick (takeT a i.2.1 (l.getD ((i.1 : Nat) : Int).toNat sm0)).2) (rowN_all _) | exact pushLen i.2.2 _ | exact DW.same _ rfl | exact DW.ref _ _ _ rfl | exact DW.arr _ _ _ rfl | exact OW.cells rfl rfl (DWl.same rfl) | refine OW.cells rfl rfl ?_ | refine DWl.cons ?_ ?_ | exact DWl.nil | exact DW.nilArr _ rfl | exact DW.nilLst _ | refine DW.clol ?_ ?_ | refine DW.aggl ?_ | refine DW.tupl ?_ | refine DW.int ?_ | refine DW.bool ?_ | refine DW.str ?_ | refine DW.arrE rfl ?_ | ((conv => whnf); first | refine And.intro ?_ ?_ | trivial))
    · repeat' (first | exact wsucc hlt (by omega) | exact DWl.eq (rfl : alD a = alD a) (alD_all a) | exact DWl.eq (rfl : wtD wt0 = wtD wt0) (wtD_all _) | exact DWl.eq (rfl : wtD i.2.1 = wtD i.2.1) (wtD_all _) | exact DWl.eq (rfl : wtD (takeT a i.2.1 (l.getD ((i.1 : Nat) : Int).toNat sm0)).1 = wtD (takeT a i.2.1 (l.getD ((i.1 : Nat) : Int).toNat sm0)).1) (wtD_all _) | exact DWl.eq (rowN_push i.2.2 (l.getD ((i.1 : Nat) : Int).toNat sm0).tick (takeT a i.2.1 (l.getD ((i.1 : Nat) : Int).toNat sm0)).2) (rowN_all _) | exact pushLen i.2.2 _ | exact DW.same _ rfl | exact DW.ref _ _ _ rfl | exact DW.arr _ _ _ rfl | exact OW.cells rfl rfl (DWl.same rfl) | refine OW.cells rfl rfl ?_ | refine DWl.cons ?_ ?_ | exact DWl.nil | exact DW.nilArr _ rfl | exact DW.nilLst _ | refine DW.clol ?_ ?_ | refine DW.aggl ?_ | refine DW.tupl ?_ | refine DW.int ?_ | refine DW.bool ?_ | refine DW.str ?_ | refine DW.arrE rfl ?_ | ((conv => whnf); first | refine And.intro ?_ ?_ | trivial))
  · rename_i i hi e0 e1
    have hlt := lt_of_test ‹decide ((i.1 : Int) < ((l.map smD).length : Nat)) = true›
    have e4 := step_pre hi hlt (pl_none e1 h)
    refine Round.go (fun _ => (i.1 + 1, (takeT a i.2.1 (l.getD ((i.1 : Nat) : Int).toNat sm0)).1, i.2.2)) e4 (by show l.length - (i.1 + 1) < l.length - i.1; omega) (Weak.list [(0, some 0), (1, some 1), (2, some 2), (3, some 3)] [] (by kernel_rfl) ?_ ?_)
    · repeat' (first | exact wsucc hlt (by omega) | exact DWl.eq (rfl : alD a = alD a) (alD_all a) | exact DWl.eq (rfl : wtD wt0 = wtD wt0) (wtD_all _) | exact DWl.eq (rfl : wtD i.2.1 = wtD i.2.1) (wtD_all _) | exact DWl.eq (rfl : wtD (takeT a i.2.1 (l.getD ((i.1 : Nat) : Int).toNat sm0)).1 = wtD (takeT a i.2.1 (l.getD ((i.1 : Nat) : Int).toNat sm0)).1) (wtD_all _) | exact DWl.eq (rfl : rowN i.2.2 = rowN i.2.2) (rowN_all _) | exact DW.same _ rfl | exact DW.ref _ _ _ rfl | exact DW.arr _ _ _ rfl | exact OW.cells rfl rfl (DWl.same rfl) | refine OW.cells rfl rfl ?_ | refine DWl.cons ?_ ?_ | exact DWl.nil | exact DW.nilArr _ rfl | exact DW.nilLst _ | refine DW.clol ?_ ?_ | refine DW.aggl ?_ | refine DW.tupl ?_ | refine DW.int ?_ | refine DW.bool ?_ | refine DW.str ?_ | refine DW.arrE rfl ?_ | ((conv => whnf); first | refine And.intro ?_ ?_ | trivial))
    · repeat' (first | exact wsucc hlt (by omega) | exact DWl.eq (rfl : alD a = alD a) (alD_all a) | exact DWl.eq (rfl : wtD wt0 = wtD wt0) (wtD_all _) | exact DWl.eq (rfl : wtD i.2.1 = wtD i.2.1) (wtD_all _) | exact DWl.eq (rfl : wtD (takeT a i.2.1 (l.getD ((i.1 : Nat) : Int).toNat sm0)).1 = wtD (takeT a i.2.1 (l.getD ((i.1 : Nat) : Int).toNat sm0)).1) (wtD_all _) | exact DWl.eq (rfl : rowN i.2.2 = rowN i.2.2) (rowN_all _) | exact DW.same _ rfl | exact DW.ref _ _ _ rfl | exact DW.arr _ _ _ rfl | exact OW.cells rfl rfl (DWl.same rfl) | refine OW.cells rfl rfl ?_ | refine DWl.cons ?_ ?_ | exact DWl.nil | exact DW.nilArr _ rfl | exact DW.nilLst _ | refine DW.clol ?_ ?_ | refine DW.aggl ?_ | refine DW.tupl ?_ | refine DW.int ?_ | refine DW.bool ?_ | refine DW.str ?_ | refine DW.arrE rfl ?_ | ((conv => whnf); first | refine And.intro ?_ ?_ | trivial))
  · exact rn_b1 _
  · exact rn_b2 (pn_len (by assumption)) hl
  · exact rn_b3 (pn_len (by assumption)) hl
  · rename_i i hi e0 e1
    have hlt := lt_of_test ‹decide ((i.1 : Int) < ((l.map smD).length : Nat)) = true›
    have e4 := step_pre hi hlt (pl_note e1 h)
    refine Round.go (fun _ => (i.1 + 1, (takeT a i.2.1 (l.getD ((i.1 : Nat) : Int).toNat sm0)).1, i.2.2 ++ [((l.getD ((i.1 : Nat) : Int).toNat sm0).tick, (takeT a i.2.1 (l.getD ((i.1 : Nat) : Int).toNat sm0)).2)])) e4 (by show l.length - (i.1 + 1) < l.length - i.1; omega) (Weak.list [(0, some 0), (1, some 1), (2, some 2), (3, some 6)] [] (by kernel_rfl) ?_ ?_)
    · repeat' (first | exact wsucc hlt (by omega) | exact DWl.eq (rfl : alD a = alD a) (alD_all a) | exact DWl.eq (rfl : wtD wt0 = wtD wt0) (wtD_all _) | exact DWl.eq (rfl : wtD i.2.1 = wtD i.2.1) (wtD_all _) | exact DWl.eq (rfl : wtD (takeT a i.2.1 (l.getD ((i.1 : Nat) : Int).toNat sm0)).1 = wtD (takeT a i.2.1 (l.getD ((i.1 : Nat) : Int).toNat sm0)).1) (wtD_all _) | exact DWl.eq (rowN_push i.2.2 (l.getD ((i.1 : Nat) : Int).toNat sm0).tick (takeT a i.2.1 (l.getD ((i.1 : Nat) : Int).toNat sm0)).2) (rowN_all _) | exact pushLen i.2.2 _ | exact DW.same _ rfl | exact DW.ref _ _ _ rfl | exact DW.arr _ _ _ rfl | exact OW.cells rfl rfl (DWl.same rfl) | refine OW.cells rfl rfl ?_ | refine DWl.cons ?_ ?_ | exact DWl.nil | exact DW.nilArr _ rfl | exact DW.nilLst _ | refine DW.clol ?_ ?_ | refine DW.aggl ?_ | refine DW.tupl ?_ | refine DW.int ?_ | refine DW.bool ?_ | refine DW.str ?_ | refine DW.arrE rfl ?_ | ((conv => whnf); first | refine And.intro ?_ ?_ | trivial))
    · repeat' (first | exact wsucc hlt (by omega) | exact DWl.eq (rfl : alD a = alD a) (alD_all a) | exact DWl.eq (rfl : wtD wt0 = wtD wt0) (wtD_all _) | exact DWl.eq (rfl : wtD i.2.1 = wtD i.2.1) (wtD_all _) | exact DWl.eq (rfl : wtD (takeT a i.2.1 (l.getD ((i.1 : Nat) : Int).toNat sm0)).1 = wtD (takeT a i.2.1 (l.getD ((i.1 : Nat) : Int).toNat sm0)).1) (wtD_all _) | exact DWl.eq (rowN_push i.2.2 (l.getD ((i.1 : Nat) : Int).toNat sm0).tick (takeT a i.2.1 (l.getD ((i.1 : Nat) : Int).toNat sm0)).2) (rowN_all _) | exact pushLen i.2.2 _ | exact DW.same _ rfl | exact DW.ref _ _ _ rfl | exact DW.arr _ _ _ rfl | exact OW.cells rfl rfl (DWl.same rfl) | refine OW.cells rfl rfl ?_ | refine DWl.cons ?_ ?_ | exact DWl.nil | exact DW.nilArr _ rfl | exact DW.nilLst _ | refine DW.clol ?_ ?_ | refine DW.aggl ?_ | refine DW.tupl ?_ | refine DW.int ?_ | refine DW.bool ?_ | refine DW.str ?_ | refine DW.arrE rfl ?_ | ((conv => whnf); first | refine And.intro ?_ ?_ | trivial))
  · rename_i i hi e0 e1
    have hlt := lt_of_test ‹decide ((i.1 : Int) < ((l.map smD).length : Nat)) = true›
    have e4 := step_pre hi hlt (pl_none e1 h)
    refine Round.go (fun _ => (i.1 + 1, (takeT a i.2.1 (l.getD ((i.1 : Nat) : Int).toNat sm0)).1, i.2.2)) e4 (by show l.length - (i.1 + 1) < l.length - i.1; omega) (Weak.list [(0, some 0), (1, some 1), (2, some 2), (3, some 3)] [] (by kernel_rfl) ?_ ?_)
    · repeat' (first | exact wsucc hlt (by omega) | exact DWl.eq (rfl : alD a = alD a) (alD_all a) | exact DWl.eq (rfl : wtD wt0 = wtD wt0) (wtD_all _) | exact DWl.eq (rfl : wtD i.2.1 = wtD i.2.1) (wtD_all _) | exact DWl.eq (rfl : wtD (takeT a i.2.1 (l.getD ((i.1 : Nat) : Int).toNat sm0)).1 = wtD (takeT a i.2.1 (l.getD ((i.1 : Nat) : Int).toNat sm0)).1) (wtD_all _) | exact DWl.eq (rfl : rowN i.2.2 = rowN i.2.2) (rowN_all _) | exact DW.same _ rfl | exact DW.ref _ _ _ rfl | exact DW.arr _ _ _ rfl | exact OW.cells rfl rfl (DWl.same rfl) | refine OW.cells rfl rfl ?_ | refine DWl.cons ?_ ?_ | exact DWl.nil | exact DW.nilArr _ rfl | exact DW.nilLst _ | refine DW.clol ?_ ?_ | refine DW.aggl ?_ | refine DW.tupl ?_ | refine DW.int ?_ | refine DW.bool ?_ | refine DW.str ?_ | refine DW.arrE rfl ?_ | ((conv => whnf); first | refine And.intro ?_ ?_ | trivial))
    · repeat' (first | exact wsucc hlt (by omega) | exact DWl.eq (rfl : alD a = alD a) (alD_all a) | exact DWl.eq (rfl : wtD wt0 = wtD wt0) (wtD_all _) | exact DWl.eq (rfl : wtD i.2.1 = wtD i.2.1) (wtD_all _) | exact DWl.eq (rfl : wtD (takeT a i.2.1 (l.getD ((i.1 : Nat) : Int).toNat sm0)).1 = wtD (takeT a i.2.1 (l.getD ((i.1 : Nat) : Int).toNat sm0)).1) (wtD_all _) | exact DWl.eq (rfl : rowN i.2.2 = rowN i.2.2) (rowN_all _) | exact DW.same _ rfl | exact DW.ref _ _ _ rfl | exact DW.arr _ _ _ rfl | exact OW.cells rfl rfl (DWl.same rfl) | refine OW.cells rfl rfl ?_ | refine DWl.cons ?_ ?_ | exact DWl.nil | exact DW.nilArr _ rfl | exact DW.nilLst _ | refine DW.clol ?_ ?_ | refine DW.aggl ?_ | refine DW.tupl ?_ | refine DW.int ?_ | refine DW.bool ?_ | refine DW.str ?_ | refine DW.arrE rfl ?_ | ((conv => whnf); first | refine And.intro ?_ ?_ | trivial))
  · rename_i i hi
    have hlt := ge_of_test h
    have e4 : i.2 = playT a l := by rw [hi.2, playT, show i.1 = l.length by omega]
    conv => whnf
    exact Tells.of (r1 := .tup [.agg (wtD i.2.1), nts i.2.2]) (by rw [e4]) (Tells.mk (DW.tupl (DWl.cons (DW.aggl (DWl.cons (DW.bool rfl) (DWl.cons (DW.int rfl) (DWl.cons (DW.bool rfl) (DWl.cons (DW.int rfl) (DWl.cons (DW.bool rfl) (DWl.cons (DW.int rfl) DWl.nil))))))) (DWl.cons (DW.pubM rfl rfl rfl rfl (ntsRow _) (rowN_eq _)) DWl.nil))))
end Go.Proofs.YtphgcgggbbcjgaaDoor
