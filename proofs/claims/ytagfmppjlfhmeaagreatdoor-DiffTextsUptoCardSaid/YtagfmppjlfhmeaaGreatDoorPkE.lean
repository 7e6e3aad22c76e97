/- The changes between two rows: the program's. -/
import Derived.Test.YtagfmppjlfhmeaaGreatDoorPkA
import Derived.Test.YtagfmppjlfhmeaaGreatDoorDp32
import Derived.Test.YtagfmppjlfhmeaaGreatDoorDp38

namespace Go.Proofs.YtagfmppjlfhmeaaGreatDoor
open Go.RowKit Go.Dl
attribute [local irreducible] Tri SCall TSem ECall Drawn DFun QSem PSem PCall GCall MCall Round Weak dloadE OW DWl Tells IntKind.wrap Retold ESem
def rowC (l : List Ch) : List DV := (l.map chD).flatten
theorem rowC_cons (x : Ch) (l : List Ch) : rowC (x :: l) = chD x ++ rowC l := rfl
theorem rowC_append (l m : List Ch) : rowC (l ++ m) = rowC l ++ rowC m := by simp [rowC]
theorem rowC_len (l : List Ch) : (rowC l).length = l.length * 5 := by
  induction l with
  | nil => rfl
  | cons a l ih => rw [rowC_cons, List.length_append, ih]; simp [chD]; omega
theorem rowC_all (l : List Ch) : (rowC l).all noId1 = true := by
  induction l with
  | nil => rfl
  | cons a l ih => rw [rowC_cons, List.all_append, ih]; rfl
theorem rowC_push (l : List Ch) (p : Ch) : (rowC l).take (l.length * 5) ++ chD p = rowC (l ++ [p]) := by
  rw [List.take_of_length_le (by rw [rowC_len]; exact Nat.le_refl _), rowC_append]; simp [rowC]
theorem rowC_eq (l : List Ch) : rowC l = (l.map chD).flatten := rfl
theorem pushC (P : List Ch) (x : Ch) : P.length + 1 = (P ++ [x]).length := by simp
theorem chRow {l : List Ch} : ∀ r ∈ l.map chD, r.length = 5 ∧ r.all isData1 = true := by
  intro r hr
  obtain ⟨c, _, rfl⟩ := List.mem_map.1 hr
  exact ⟨rfl, rfl⟩
set_option maxRecDepth 20000 in
theorem rc_b1 (P : List Ch) : P.length * Tryz.prog.types[56].size ≤ (rowC P).length := by
  show P.length * 5 ≤ _
  rw [rowC_len]; exact Nat.le_refl _
set_option maxRecDepth 20000 in
theorem rc_b2 {P : List Ch} (h : P.length ≤ 8388608) : (P.length + 1) * Tryz.prog.types[56].bytes ≤ 140737488355328 := by
  show (P.length + 1) * 64 ≤ _
  omega
theorem rc_b3 {P : List Ch} (h : P.length ≤ 8388608) : P.length + 1 ≤ maxLen := by simp only [maxLen]; omega
theorem tl1 {f : Lf → List DV} (x : Lf) (l : List Lf) : ((((x :: l).map f).take ((x :: l).map f).length).drop 1) = l.map f := by
  rw [List.take_length]; rfl
theorem u74 : Tryz.prog.underlying 74 = some (.pointer (Tryz.prog.pointee 74)) := by kernel_rfl
set_option maxRecDepth 20000 in
theorem of33_D (x : Lf) : DPure Tryz.prog 33 [.agg (lfD x)] (strV x.p) := by
  refine DFun.data (DFun.body Tryz.func33 rfl (by kernel_rfl) ?_)
  repeat' (first | with_reducible rfl | ((conv => whnf); first | refine And.intro ?_ ?_ | (intro h; first | with_reducible exact tf_no h | with_reducible exact ft_no h | exact Bool.noConfusion h | with_reducible exact h | (have ht : true = true := h; clear ht h) | skip) | ((with_reducible refine ECall.mark ?_); first | refine ECall.only ?_ (fun h => nomatch h) | refine ECall.only ?_ ?_) | ((with_reducible refine Drawn.mark ?_); first | refine Drawn.quiet (by kernel_rfl) ?_) | refine dcell_ok rfl ?_ | refine AppC.new ?_))
  all_goals first | (with_reducible refine enters_mark ?_; kernel_rfl) | (with_reducible refine boolT_mark ?_; kernel_rfl) | rfl | trivial | assumption | exact Nat.le_of_ble_eq_true rfl | (show entersB _ _ = true; kernel_rfl) | exact DW.same _ rfl | exact DW.ref _ _ _ rfl | exact DW.arr _ _ _ rfl | refine DW.int ?_ | refine dvb ?_ | refine dvi ?_ | exact OW.cells rfl rfl (DWl.same rfl) | exact Nat.zero_le _ | omega | skip
  all_goals repeat' (first | refine OW.cells rfl rfl ?_ | exact DW.nilArr _ rfl | refine DWl.cons ?_ ?_ | exact DWl.nil | exact DW.same _ rfl | exact DW.ref _ _ _ rfl | exact DW.arr _ _ _ rfl | exact DW.sub _ _ _ _ rfl | exact DW.mo _ _ rfl | exact DW.nilLst _ | refine DW.aggl ?_ | refine DW.tupl ?_ | refine DW.clol ?_ ?_)
  all_goals try ((conv => whnf); with_reducible first | refine Round.mark ?_ | refine Tells.mark ?_ | refine Retold.mark ?_)
  all_goals try first | (show (_ : Bool) = _; simp_all; done) | (show (_ : Int) < _; simp at *; omega) | (show (_ : Int) ≤ _; simp at *; omega) | (show (_ : Nat) < _; simp at *; omega) | (show (_ : Nat) ≤ _; simp at *; omega)
  all_goals (conv => whnf)
  all_goals exact Tells.mk (DW.same _ rfl)
set_option maxRecDepth 20000 in
theorem of34_D (c : Ch) : DPure Tryz.prog 34 [.agg (chD c)] (strV c.p) := by
  refine DFun.data (DFun.body Tryz.func34 rfl (by kernel_rfl) ?_)
  repeat' (first | with_reducible rfl | ((conv => whnf); first | refine And.intro ?_ ?_ | (intro h; first | with_reducible exact tf_no h | with_reducible exact ft_no h | exact Bool.noConfusion h | with_reducible exact h | (have ht : true = true := h; clear ht h) | skip) | ((with_reducible refine ECall.mark ?_); first | refine ECall.only ?_ (fun h => nomatch h) | refine ECall.only ?_ ?_) | ((with_reducible refine Drawn.mark ?_); first | refine Drawn.quiet (by kernel_rfl) ?_) | refine dcell_ok rfl ?_ | refine AppC.new ?_))
  all_goals first | (with_reducible refine enters_mark ?_; kernel_rfl) | (with_reducible refine boolT_mark ?_; kernel_rfl) | rfl | trivial | assumption | exact Nat.le_of_ble_eq_true rfl | (show entersB _ _ = true; kernel_rfl) | exact DW.same _ rfl | exact DW.ref _ _ _ rfl | exact DW.arr _ _ _ rfl | refine DW.int ?_ | refine dvb ?_ | refine dvi ?_ | exact OW.cells rfl rfl (DWl.same rfl) | exact Nat.zero_le _ | omega | skip
  all_goals repeat' (first | refine OW.cells rfl rfl ?_ | exact DW.nilArr _ rfl | refine DWl.cons ?_ ?_ | exact DWl.nil | exact DW.same _ rfl | exact DW.ref _ _ _ rfl | exact DW.arr _ _ _ rfl | exact DW.sub _ _ _ _ rfl | exact DW.mo _ _ rfl | exact DW.nilLst _ | refine DW.aggl ?_ | refine DW.tupl ?_ | refine DW.clol ?_ ?_)
  all_goals try ((conv => whnf); with_reducible first | refine Round.mark ?_ | refine Tells.mark ?_ | refine Retold.mark ?_)
  all_goals try first | (show (_ : Bool) = _; simp_all; done) | (show (_ : Int) < _; simp at *; omega) | (show (_ : Int) ≤ _; simp at *; omega) | (show (_ : Nat) < _; simp at *; omega) | (show (_ : Nat) ≤ _; simp at *; omega)
  all_goals (conv => whnf)
  all_goals exact Tells.mk (DW.same _ rfl)
theorem bt_x {b c : Bool} (h : b = c) (k : b = !c) : False := by subst h; cases b <;> cases k
theorem pos_cons {f : Lf → List DV} (x : Lf) (l : List Lf) : decide ((0 : Int) < ((((x :: l).map f).length : Nat) : Int)) = true := decide_eq_true (by rw [List.length_map, List.length_cons]; omega)
theorem nz_cons {f : Lf → List DV} (x : Lf) (l : List Lf) : (((((x :: l).map f).length : Nat) : Int) == 0) = false := by
  rw [beq_eq_false_iff_ne, List.length_map, List.length_cons]; omega
theorem ge1_cons {f : Lf → List DV} (x : Lf) (l : List Lf) : (1 : Int) ≤ ((((x :: l).map f).length : Nat) : Int) := by
  rw [List.length_map, List.length_cons]; omega
theorem gf0 {f : Lf → List DV} : (decide ((0 : Int) < (((([] : List Lf).map f).length : Nat) : Int)) == false) = true := rfl
theorem gf1 {b : Bool} (h : b = false) : (b == false) = true := by rw [h]; rfl
theorem gf2 {b : Bool} (h : b = false) : (b == false && b == false) = true := by rw [h]; rfl
theorem gp2 {b c : Bool} (h : b = false) (k : c = true) : (b == false && b == false && c == true) = true := by rw [h, k]; rfl
theorem gt_1 {a b : ByteArray} (h : ltB a b = false) (k : ltB b a = true) : (!(ltB a b || a == b)) = true := by
  cases e : a == b with
  | true => rw [ba_eq.1 e, ltB_irr] at k; cases k
  | false => rw [h]; rfl
theorem gt_2 {a b : ByteArray} (h : ltB a b = false) (k : ltB b a = false) : (!(ltB a b || a == b)) = false := by
  rw [ba_eq.2 (ltB_tri h k), h]; rfl
theorem bne_f {a b : ByteArray} (h : a = b) : (a != b) = false := by unfold bne; rw [ba_eq.2 h]; rfl
theorem bne_t {a b : ByteArray} (h : a ≠ b) : (a != b) = true := bne_iff.2 h
structure Bi where
  l : List Lf
  m : List Lf
  o : List Ch
def BwI (a b : List Lf) (i : Bi) : Prop := i.o.length + i.l.length + i.m.length ≤ a.length + b.length ∧ i.o ++ (mLL i.l i.m).filterMap betO = betT a b
def bwSt (lb : Nat) (i : Bi) : St := ⟨⟨5, [.normal]⟩, tmOf [(0, .clo (.yield lb) [] []), (1, .ref 1 0), (2, .ref 2 0), (3, .ref 3 0), (4, .ref 4 0)], .of [(0, ⟨23, 1, [.arr 5 i.o.length]⟩), (1, ⟨22, 1, [lfs i.l]⟩), (2, ⟨22, 1, [lfs i.m]⟩), (3, ⟨72, 1, [.clo (.func 33) [] []]⟩), (4, ⟨72, 1, [.clo (.func 33) [] []]⟩), (5, ⟨56, 5, rowC i.o⟩)] 6⟩
set_option maxRecDepth 100000 in
set_option maxHeartbeats 2000000 in
theorem between20_D (a b : List Lf) (ha : a.length ≤ 4194304) (hb : b.length ≤ 4194304) : DPure Tryz.prog 20 [lfs a, lfs b] (chs (betT a b)) := by
  refine DFun.data (DFun.body Tryz.func20 rfl (by kernel_rfl) ?_)
  repeat' (first | with_reducible rfl | ((conv => whnf); first | refine And.intro ?_ ?_ | (intro h; first | with_reducible exact tf_no h | with_reducible exact ft_no h | exact Bool.noConfusion h | with_reducible exact h | (have ht : true = true := h; clear ht h) | skip) | ((with_reducible refine SCall.mark ?_); first | refine SCall.run Tryz.func47 rfl (Nat.le_of_ble_eq_true rfl) (by kernel_rfl) ?_) | ((with_reducible refine ECall.mark ?_); first | refine ECall.only ?_ (fun h => nomatch h) | refine ECall.only ?_ ?_) | ((with_reducible refine Drawn.mark ?_); first | refine Drawn.quiet (by kernel_rfl) ?_) | refine dloadE_map (lf0) ?_ ?_ | refine dcell_ok rfl ?_ | refine AppC.new ?_))
  all_goals try first | ((with_reducible show Option.isSome (slElem _ _) = true); kernel_rfl) | ((with_reducible show slElem _ _ = some _); kernel_rfl) | ((with_reducible refine enters_mark ?_); kernel_rfl) | (with_reducible assumption) | ((with_reducible show List.all _ DV.one = true); rfl) | ((with_reducible show (_ : Nat) = _); rfl) | ((with_reducible show (_ == true) = true); first | (simp; done) | simpa using h) | ((with_reducible show (_ : Nat) ≤ _); exact Nat.le_of_ble_eq_true rfl) | ((with_reducible show (_ : Int) ≤ _); first | omega | decide) | ((with_reducible show (_ : Int) < _); first | omega | decide) | ((with_reducible show (_ : Nat) < _); omega) | ((with_reducible show (_ : Nat) ≤ _); omega)
  conv => whnf
  refine Tri.range rfl (by kernel_rfl) rfl rfl (by rfl) (by kernel_rfl) fun lb => ?_
  repeat' (first | with_reducible rfl | ((conv => whnf); first | refine And.intro ?_ ?_ | (intro h; first | with_reducible exact tf_no h | with_reducible exact ft_no h | exact Bool.noConfusion h | with_reducible exact h | (have ht : true = true := h; clear ht h) | skip) | ((with_reducible refine ECall.mark ?_); first | refine ECall.only ?_ (fun h => nomatch h) | refine ECall.only ?_ ?_) | ((with_reducible refine Drawn.mark ?_); first | refine Drawn.quiet (by kernel_rfl) ?_) | refine dloadE_map (lf0) ?_ ?_ | refine dcell_ok rfl ?_ | refine AppC.new ?_))
  all_goals first | (with_reducible refine enters_mark ?_; kernel_rfl) | (with_reducible refine boolT_mark ?_; kernel_rfl) | rfl | trivial | assumption | exact Nat.le_of_ble_eq_true rfl | (show entersB _ _ = true; kernel_rfl) | exact DW.same _ rfl | exact DW.ref _ _ _ rfl | exact DW.arr _ _ _ rfl | refine DW.int ?_ | refine dvb ?_ | refine dvi ?_ | exact OW.cells rfl rfl (DWl.same rfl) | exact Nat.zero_le _ | omega | skip
  all_goals repeat' (first | refine OW.cells rfl rfl ?_ | exact DW.nilArr _ rfl | refine DWl.cons ?_ ?_ | exact DWl.nil | exact DW.same _ rfl | exact DW.ref _ _ _ rfl | exact DW.arr _ _ _ rfl | exact DW.sub _ _ _ _ rfl | exact DW.mo _ _ rfl | exact DW.nilLst _ | refine DW.aggl ?_ | refine DW.tupl ?_ | refine DW.clol ?_ ?_)
  all_goals try ((conv => whnf); with_reducible first | refine Round.mark ?_ | refine Tells.mark ?_ | refine Retold.mark ?_)
  all_goals try first | (show (_ : Bool) = _; simp_all; done) | (show (_ : Int) < _; simp at *; omega) | (show (_ : Int) ≤ _; simp at *; omega) | (show (_ : Nat) < _; simp at *; omega) | (show (_ : Nat) ≤ _; simp at *; omega)
  conv => whnf
  refine Tri.loop (bwSt lb) (BwI a b) (fun i => i.l.length + i.m.length) ⟨a, b, []⟩ (by kernel_rfl) (Weak.list [(5, none)] [] (by kernel_rfl) ?_ ?_) ⟨by show 0 + a.length + b.length ≤ _; omega, rfl⟩ ?_
  iterate 2 · repeat' (first | exact DW.nilArr _ rfl | exact DW.same _ rfl | exact DW.ref _ _ _ rfl | exact DW.arr _ _ _ rfl | exact OW.cells rfl rfl (DWl.same rfl) | refine OW.cells rfl rfl ?_ | refine DWl.cons ?_ ?_ | exact DWl.nil | exact DW.nilArr _ rfl | exact DW.nilLst _ | refine DW.clol ?_ ?_ | refine DW.aggl ?_ | refine DW.tupl ?_ | refine DW.int ?_ | refine DW.bool ?_ | refine DW.str ?_ | refine DW.arrE rfl ?_ | ((conv => whnf); first | refine And.intro ?_ ?_ | trivial))
  intro i hi
  obtain ⟨l, m, o⟩ := i
  obtain ⟨hi1, hi2⟩ := hi
  simp only at hi1 hi2
  have hol : o.length ≤ 8388608 := by omega
  show dcode _ _ _ _ (bwSt lb ⟨l, m, o⟩) _
  rcases l with _ | ⟨x, l⟩
  · rcases m with _ | ⟨y, m⟩
    · repeat' (first | with_reducible rfl | ((conv => whnf); first | refine And.intro ?_ ?_ | (intro h; first | with_reducible exact tf_no h | with_reducible exact ft_no h | exact Bool.noConfusion h | with_reducible exact h | (have ht : true = true := h; clear ht h) | skip) | ((with_reducible refine ECall.mark ?_); first | refine ECall.only ?_ (fun h => nomatch h) | refine ECall.only ?_ ?_) | ((with_reducible refine Drawn.mark ?_); first | refine Drawn.quiet (by kernel_rfl) ?_) | refine dloadE_map (lf0) ?_ ?_ | refine dcell_ok rfl ?_ | refine AppC.new ?_))
      all_goals try first | ((with_reducible show Option.isSome (slElem _ _) = true); kernel_rfl) | ((with_reducible show slElem _ _ = some _); kernel_rfl) | ((with_reducible refine enters_mark ?_); kernel_rfl) | (with_reducible assumption) | ((with_reducible show List.all _ DV.one = true); rfl) | ((with_reducible show (_ : Nat) = _); rfl) | ((with_reducible show (_ == true) = true); first | (simp; done) | simpa using h) | ((with_reducible show (_ : Nat) ≤ _); exact Nat.le_of_ble_eq_true rfl) | ((with_reducible show (_ : Int) ≤ _); first | omega | decide) | ((with_reducible show (_ : Int) < _); first | omega | decide) | ((with_reducible show (_ : Nat) < _); omega) | ((with_reducible show (_ : Nat) ≤ _); omega)
      · rfl
      · conv => whnf
        exact Tells.of (congrArg chs (show betT a b = o by rw [← hi2, mLL, mrg_nil, List.filterMap_nil, List.append_nil])) (Tells.mk (DW.pubM (l := o) (f := chD) rfl rfl rfl rfl chRow rfl))
    · skip
      have hT : (bif decide ((0 : Int) < (((([]).map lfD).length : Nat) : Int)) then true else decide ((0 : Int) < ((((y :: m).map lfD).length : Nat) : Int))) = true := by rw [pos_cons]; rfl
      repeat' (first | with_reducible rfl | ((conv => whnf); first | refine And.intro ?_ ?_ | (intro h; first | with_reducible exact tf_no h | with_reducible exact ft_no h | exact Bool.noConfusion h | with_reducible exact h | (exfalso; exact bt_x hT h) | (have ht : true = true := h; clear ht h) | skip) | ((with_reducible refine SCall.mark ?_); first | refine SCall.data (of33_D _) rfl rfl ?_ | refine SCall.scal (of33_D _) rfl rfl ?_) | ((with_reducible refine PCall.mark ?_); first | refine PCall.mk (of33_D _) rfl rfl ?_) | ((with_reducible refine GCall.mark ?_); first | refine GCall.data (fun _ => of33_D _) rfl rfl ?_ | refine GCall.scal (fun _ => of33_D _) rfl rfl ?_) | ((with_reducible refine MCall.mark ?_); first | refine MCall.data (fun _ => of33_D _) rfl rfl ?_ | refine MCall.plain (PCall.mk (of33_D _) rfl rfl ?_)) | ((with_reducible refine Tri.mark ?_); first | (refine Tri.treeX [0, 5] (MX.mv 0 1 (MX.mv 0 2 (MX.mv 0 3 (MX.mv 0 4 (MX.mv 0 5 (MX.mv 0 6 (MX.mv 0 7 (MX.mv 0 8 (MX.mv 0 9 (MX.two 1 0 (MX.mv 1 10 (MX.mv 1 11 (MX.mv 1 12 MX.done))) 1 10 (MX.mv 1 0 (MX.mv 1 11 (MX.mv 1 12 MX.done))))))))))))) ?_ (by kernel_rfl) ?_; rfl)) | ((with_reducible refine ex_mark ?_); first | refine dq_ptrE u74 rfl rfl ?_ | refine dq_ptrN u74 rfl rfl ?_ | refine dq_pnilE u74 rfl rfl ?_ | refine dq_pnilN u74 rfl rfl ?_) | ((with_reducible refine ECall.mark ?_); first | refine ECall.only ?_ (fun h => nomatch h) | refine ECall.only ?_ ?_) | ((with_reducible refine Drawn.mark ?_); first | refine Drawn.quiet (by kernel_rfl) ?_) | refine dloadE_map (lf0) ?_ ?_ | refine dcell_ok rfl ?_ | refine AppC.new ?_))
      all_goals try ((conv => whnf); with_reducible refine Round.mark ?_)
      all_goals try first | ((with_reducible show Option.isSome (slElem _ _) = true); kernel_rfl) | ((with_reducible show slElem _ _ = some _); kernel_rfl) | ((with_reducible refine enters_mark ?_); kernel_rfl) | (with_reducible assumption) | ((with_reducible show List.all _ DV.one = true); rfl) | ((with_reducible show (_ : Nat) = _); rfl) | ((with_reducible show (_ == true) = true); first | (simp; done) | simpa using h) | ((with_reducible show (_ : Nat) ≤ _); exact Nat.le_of_ble_eq_true rfl) | ((with_reducible show (_ : Int) ≤ _); first | omega | decide) | ((with_reducible show (_ : Int) < _); first | omega | decide) | ((with_reducible show (_ : Nat) < _); omega) | ((with_reducible show (_ : Nat) ≤ _); omega)
      all_goals try (first | (with_reducible exact tnb h) | (with_reducible exact gf0) | (with_reducible exact gf1 (nz_cons _ _)) | (with_reducible exact gf2 (nz_cons _ _)) | (with_reducible exact gp1 (pos_cons _ _)) | (with_reducible exact gp2 (nz_cons _ _) (pos_cons _ _)) | (with_reducible exact gp3 (nz_cons _ _) (nz_cons _ _)) | (with_reducible exact of_decide_eq_true (pos_cons _ _)) | (exact ge1_cons _ _; done) | (exact Nat.succ_pos _; done) | ((with_reducible show Option.all _ _ = true); rfl) | (exact rc_b1 o; done) | (exact rc_b2 hol; done) | (exact rc_b3 hol; done))
      all_goals
        refine Round.go (fun _ => Bi.mk (([] : List Lf)) (m) (o ++ [(⟨y.p, false, emB, true, y.v⟩ : Ch)])) ?_ ?_ (Weak.list [(5, some 7)] [] (by kernel_rfl) ?_ ?_)
        · exact ⟨by show (o ++ [(⟨y.p, false, emB, true, y.v⟩ : Ch)]).length + (([] : List Lf)).length + (m).length ≤ _; simp only [List.length_append, List.length_cons, List.length_nil] at hi1 ⊢; omega, by show (o ++ [(⟨y.p, false, emB, true, y.v⟩ : Ch)]) ++ _ = _; rw [← hi2, mLL, mLL, mrg_r]; exact (List.append_assoc o [_] _)⟩
        · show (([] : List Lf)).length + (m).length < (([] : List Lf)).length + (y :: m).length
          exact Nat.add_lt_add_left (Nat.lt_succ_self _) _
        iterate 2 · repeat' (first | exact DW.lstE (tl1 y m) | exact DW.arrE rfl (pushC o _) | exact DWl.eq (rowC_push o (⟨y.p, false, emB, true, y.v⟩ : Ch)) (rowC_all _) | exact DW.same _ rfl | exact DW.ref _ _ _ rfl | exact DW.arr _ _ _ rfl | exact OW.cells rfl rfl (DWl.same rfl) | refine OW.cells rfl rfl ?_ | refine DWl.cons ?_ ?_ | exact DWl.nil | exact DW.nilArr _ rfl | exact DW.nilLst _ | refine DW.clol ?_ ?_ | refine DW.aggl ?_ | refine DW.tupl ?_ | refine DW.int ?_ | refine DW.bool ?_ | refine DW.str ?_ | refine DW.arrE rfl ?_ | ((conv => whnf); first | refine And.intro ?_ ?_ | trivial))
  · rcases m with _ | ⟨y, m⟩
    · skip
      have hT : (bif decide ((0 : Int) < ((((x :: l).map lfD).length : Nat) : Int)) then true else decide ((0 : Int) < (((([]).map lfD).length : Nat) : Int))) = true := by rw [pos_cons]; rfl
      repeat' (first | with_reducible rfl | ((conv => whnf); first | refine And.intro ?_ ?_ | (intro h; first | with_reducible exact tf_no h | with_reducible exact ft_no h | exact Bool.noConfusion h | with_reducible exact h | (exfalso; exact bt_x hT h) | (have ht : true = true := h; clear ht h) | skip) | ((with_reducible refine SCall.mark ?_); first | refine SCall.data (of33_D _) rfl rfl ?_ | refine SCall.scal (of33_D _) rfl rfl ?_) | ((with_reducible refine PCall.mark ?_); first | refine PCall.mk (of33_D _) rfl rfl ?_) | ((with_reducible refine GCall.mark ?_); first | refine GCall.data (fun _ => of33_D _) rfl rfl ?_ | refine GCall.scal (fun _ => of33_D _) rfl rfl ?_) | ((with_reducible refine MCall.mark ?_); first | refine MCall.data (fun _ => of33_D _) rfl rfl ?_ | refine MCall.plain (PCall.mk (of33_D _) rfl rfl ?_)) | ((with_reducible refine Tri.mark ?_); first | (refine Tri.treeX [0, 5] (MX.mv 0 1 (MX.mv 0 2 (MX.mv 0 3 (MX.mv 0 4 (MX.mv 0 5 (MX.mv 0 6 (MX.mv 0 7 (MX.mv 0 8 (MX.mv 0 9 (MX.two 1 0 (MX.mv 1 10 (MX.mv 1 11 (MX.mv 1 12 MX.done))) 1 10 (MX.mv 1 0 (MX.mv 1 11 (MX.mv 1 12 MX.done))))))))))))) ?_ (by kernel_rfl) ?_; rfl)) | ((with_reducible refine ex_mark ?_); first | refine dq_ptrE u74 rfl rfl ?_ | refine dq_ptrN u74 rfl rfl ?_ | refine dq_pnilE u74 rfl rfl ?_ | refine dq_pnilN u74 rfl rfl ?_) | ((with_reducible refine ECall.mark ?_); first | refine ECall.only ?_ (fun h => nomatch h) | refine ECall.only ?_ ?_) | ((with_reducible refine Drawn.mark ?_); first | refine Drawn.quiet (by kernel_rfl) ?_) | refine dloadE_map (lf0) ?_ ?_ | refine dcell_ok rfl ?_ | refine AppC.new ?_))
      all_goals try ((conv => whnf); with_reducible refine Round.mark ?_)
      all_goals try first | ((with_reducible show Option.isSome (slElem _ _) = true); kernel_rfl) | ((with_reducible show slElem _ _ = some _); kernel_rfl) | ((with_reducible refine enters_mark ?_); kernel_rfl) | (with_reducible assumption) | ((with_reducible show List.all _ DV.one = true); rfl) | ((with_reducible show (_ : Nat) = _); rfl) | ((with_reducible show (_ == true) = true); first | (simp; done) | simpa using h) | ((with_reducible show (_ : Nat) ≤ _); exact Nat.le_of_ble_eq_true rfl) | ((with_reducible show (_ : Int) ≤ _); first | omega | decide) | ((with_reducible show (_ : Int) < _); first | omega | decide) | ((with_reducible show (_ : Nat) < _); omega) | ((with_reducible show (_ : Nat) ≤ _); omega)
      all_goals try (first | (with_reducible exact tnb h) | (with_reducible exact gf0) | (with_reducible exact gf1 (nz_cons _ _)) | (with_reducible exact gf2 (nz_cons _ _)) | (with_reducible exact gp1 (pos_cons _ _)) | (with_reducible exact gp2 (nz_cons _ _) (pos_cons _ _)) | (with_reducible exact gp3 (nz_cons _ _) (nz_cons _ _)) | (with_reducible exact of_decide_eq_true (pos_cons _ _)) | (exact ge1_cons _ _; done) | (exact Nat.succ_pos _; done) | ((with_reducible show Option.all _ _ = true); rfl) | (exact rc_b1 o; done) | (exact rc_b2 hol; done) | (exact rc_b3 hol; done))
      all_goals
        refine Round.go (fun _ => Bi.mk (l) (([] : List Lf)) (o ++ [(⟨x.p, true, x.v, false, emB⟩ : Ch)])) ?_ ?_ (Weak.list [(5, some 7)] [] (by kernel_rfl) ?_ ?_)
        · exact ⟨by show (o ++ [(⟨x.p, true, x.v, false, emB⟩ : Ch)]).length + (l).length + (([] : List Lf)).length ≤ _; simp only [List.length_append, List.length_cons, List.length_nil] at hi1 ⊢; omega, by show (o ++ [(⟨x.p, true, x.v, false, emB⟩ : Ch)]) ++ _ = _; rw [← hi2, mLL, mLL, mrg_l]; exact (List.append_assoc o [_] _)⟩
        · show (l).length + (([] : List Lf)).length < (x :: l).length + (([] : List Lf)).length
          exact Nat.add_lt_add_right (Nat.lt_succ_self _) _
        iterate 2 · repeat' (first | exact DW.lstE (tl1 x l) | exact DW.arrE rfl (pushC o _) | exact DWl.eq (rowC_push o (⟨x.p, true, x.v, false, emB⟩ : Ch)) (rowC_all _) | exact DW.same _ rfl | exact DW.ref _ _ _ rfl | exact DW.arr _ _ _ rfl | exact OW.cells rfl rfl (DWl.same rfl) | refine OW.cells rfl rfl ?_ | refine DWl.cons ?_ ?_ | exact DWl.nil | exact DW.nilArr _ rfl | exact DW.nilLst _ | refine DW.clol ?_ ?_ | refine DW.aggl ?_ | refine DW.tupl ?_ | refine DW.int ?_ | refine DW.bool ?_ | refine DW.str ?_ | refine DW.arrE rfl ?_ | ((conv => whnf); first | refine And.intro ?_ ?_ | trivial))
    · have hT0 : True := trivial
      have hT : (bif decide ((0 : Int) < ((((x :: l).map lfD).length : Nat) : Int)) then true else decide ((0 : Int) < ((((y :: m).map lfD).length : Nat) : Int))) = true := by rw [pos_cons]; rfl
      by_cases k1 : ltB x.p y.p = true
      · skip
        have hT4 : (bif ((((y :: m).map lfD).length : Nat) : Int) == 0 then true else bif decide ((0 : Int) < ((((x :: l).map lfD).length : Nat) : Int)) then Op.bytesLess ((x :: l).getD (Int.toNat 0) lf0).p.toList ((y :: m).getD (Int.toNat 0) lf0).p.toList else false) = true := by rw [nz_cons, pos_cons]; exact k1
        repeat' (first | with_reducible rfl | ((conv => whnf); first | refine And.intro ?_ ?_ | (intro h; first | with_reducible exact tf_no h | with_reducible exact ft_no h | exact Bool.noConfusion h | with_reducible exact h | (exfalso; exact bt_x hT h) | (exfalso; exact bt_x hT4 h) | (have ht : true = true := h; clear ht h) | skip) | ((with_reducible refine SCall.mark ?_); first | refine SCall.data (of33_D _) rfl rfl ?_ | refine SCall.scal (of33_D _) rfl rfl ?_) | ((with_reducible refine PCall.mark ?_); first | refine PCall.mk (of33_D _) rfl rfl ?_) | ((with_reducible refine GCall.mark ?_); first | refine GCall.data (fun _ => of33_D _) rfl rfl ?_ | refine GCall.scal (fun _ => of33_D _) rfl rfl ?_) | ((with_reducible refine MCall.mark ?_); first | refine MCall.data (fun _ => of33_D _) rfl rfl ?_ | refine MCall.plain (PCall.mk (of33_D _) rfl rfl ?_)) | ((with_reducible refine Tri.mark ?_); first | (refine Tri.treeX [0, 5] (MX.mv 0 1 (MX.mv 0 2 (MX.mv 0 3 (MX.mv 0 4 (MX.mv 0 5 (MX.mv 0 6 (MX.mv 0 7 (MX.mv 0 8 (MX.mv 0 9 (MX.two 1 0 (MX.mv 1 10 (MX.mv 1 11 (MX.mv 1 12 MX.done))) 1 10 (MX.mv 1 0 (MX.mv 1 11 (MX.mv 1 12 MX.done))))))))))))) ?_ (by kernel_rfl) ?_; rfl)) | ((with_reducible refine ex_mark ?_); first | refine dq_ptrE u74 rfl rfl ?_ | refine dq_ptrN u74 rfl rfl ?_ | refine dq_pnilE u74 rfl rfl ?_ | refine dq_pnilN u74 rfl rfl ?_) | ((with_reducible refine ECall.mark ?_); first | refine ECall.only ?_ (fun h => nomatch h) | refine ECall.only ?_ ?_) | ((with_reducible refine Drawn.mark ?_); first | refine Drawn.quiet (by kernel_rfl) ?_) | refine dloadE_map (lf0) ?_ ?_ | refine dcell_ok rfl ?_ | refine AppC.new ?_))
        all_goals try ((conv => whnf); with_reducible refine Round.mark ?_)
        all_goals try first | ((with_reducible show Option.isSome (slElem _ _) = true); kernel_rfl) | ((with_reducible show slElem _ _ = some _); kernel_rfl) | ((with_reducible refine enters_mark ?_); kernel_rfl) | (with_reducible assumption) | ((with_reducible show List.all _ DV.one = true); rfl) | ((with_reducible show (_ : Nat) = _); rfl) | ((with_reducible show (_ == true) = true); first | (simp; done) | simpa using h) | ((with_reducible show (_ : Nat) ≤ _); exact Nat.le_of_ble_eq_true rfl) | ((with_reducible show (_ : Int) ≤ _); first | omega | decide) | ((with_reducible show (_ : Int) < _); first | omega | decide) | ((with_reducible show (_ : Nat) < _); omega) | ((with_reducible show (_ : Nat) ≤ _); omega)
        all_goals try (first | (with_reducible exact tnb h) | (with_reducible exact gf0) | (with_reducible exact gf1 (nz_cons _ _)) | (with_reducible exact gf2 (nz_cons _ _)) | (with_reducible exact gp1 (pos_cons _ _)) | (with_reducible exact gp2 (nz_cons _ _) (pos_cons _ _)) | (with_reducible exact gp3 (nz_cons _ _) (nz_cons _ _)) | (with_reducible exact of_decide_eq_true (pos_cons _ _)) | (exact ge1_cons _ _; done) | (exact Nat.succ_pos _; done) | ((with_reducible show Option.all _ _ = true); rfl) | (exact rc_b1 o; done) | (exact rc_b2 hol; done) | (exact rc_b3 hol; done))
        all_goals
          refine Round.go (fun _ => Bi.mk (l) (y :: m) (o ++ [(⟨x.p, true, x.v, false, emB⟩ : Ch)])) ?_ ?_ (Weak.list [(5, some 7)] [] (by kernel_rfl) ?_ ?_)
          · exact ⟨by show (o ++ [(⟨x.p, true, x.v, false, emB⟩ : Ch)]).length + (l).length + (y :: m).length ≤ _; simp only [List.length_append, List.length_cons, List.length_nil] at hi1 ⊢; omega, by show (o ++ [(⟨x.p, true, x.v, false, emB⟩ : Ch)]) ++ _ = _; rw [← hi2, mLL, mLL, mrg_lt k1]; exact (List.append_assoc o [_] _)⟩
          · show (l).length + (y :: m).length < (x :: l).length + (y :: m).length
            exact Nat.add_lt_add_right (Nat.lt_succ_self _) _
          iterate 2 · repeat' (first | exact DW.lstE (tl1 x l) | exact DW.arrE rfl (pushC o _) | exact DWl.eq (rowC_push o (⟨x.p, true, x.v, false, emB⟩ : Ch)) (rowC_all _) | exact DW.same _ rfl | exact DW.ref _ _ _ rfl | exact DW.arr _ _ _ rfl | exact OW.cells rfl rfl (DWl.same rfl) | refine OW.cells rfl rfl ?_ | refine DWl.cons ?_ ?_ | exact DWl.nil | exact DW.nilArr _ rfl | exact DW.nilLst _ | refine DW.clol ?_ ?_ | refine DW.aggl ?_ | refine DW.tupl ?_ | refine DW.int ?_ | refine DW.bool ?_ | refine DW.str ?_ | refine DW.arrE rfl ?_ | ((conv => whnf); first | refine And.intro ?_ ?_ | trivial))
      · have k1 := eq_false_of_ne_true k1
        have hT4 : (bif ((((y :: m).map lfD).length : Nat) : Int) == 0 then true else bif decide ((0 : Int) < ((((x :: l).map lfD).length : Nat) : Int)) then Op.bytesLess ((x :: l).getD (Int.toNat 0) lf0).p.toList ((y :: m).getD (Int.toNat 0) lf0).p.toList else false) = false := by rw [nz_cons, pos_cons]; exact k1
        by_cases k2 : ltB y.p x.p = true
        · skip
          have hT6 : (bif ((((x :: l).map lfD).length : Nat) : Int) == 0 then true else !(Op.bytesLess ((x :: l).getD (Int.toNat 0) lf0).p.toList ((y :: m).getD (Int.toNat 0) lf0).p.toList || ((x :: l).getD (Int.toNat 0) lf0).p == ((y :: m).getD (Int.toNat 0) lf0).p)) = true := by rw [nz_cons]; exact gt_1 k1 k2
          repeat' (first | with_reducible rfl | ((conv => whnf); first | refine And.intro ?_ ?_ | (intro h; first | with_reducible exact tf_no h | with_reducible exact ft_no h | exact Bool.noConfusion h | with_reducible exact h | (exfalso; exact bt_x hT h) | (exfalso; exact bt_x hT4 h) | (exfalso; exact bt_x hT6 h) | (have ht : true = true := h; clear ht h) | skip) | ((with_reducible refine SCall.mark ?_); first | refine SCall.data (of33_D _) rfl rfl ?_ | refine SCall.scal (of33_D _) rfl rfl ?_) | ((with_reducible refine PCall.mark ?_); first | refine PCall.mk (of33_D _) rfl rfl ?_) | ((with_reducible refine GCall.mark ?_); first | refine GCall.data (fun _ => of33_D _) rfl rfl ?_ | refine GCall.scal (fun _ => of33_D _) rfl rfl ?_) | ((with_reducible refine MCall.mark ?_); first | refine MCall.data (fun _ => of33_D _) rfl rfl ?_ | refine MCall.plain (PCall.mk (of33_D _) rfl rfl ?_)) | ((with_reducible refine Tri.mark ?_); first | (refine Tri.treeX [0, 5] (MX.mv 0 1 (MX.mv 0 2 (MX.mv 0 3 (MX.mv 0 4 (MX.mv 0 5 (MX.mv 0 6 (MX.mv 0 7 (MX.mv 0 8 (MX.mv 0 9 (MX.two 1 0 (MX.mv 1 10 (MX.mv 1 11 (MX.mv 1 12 MX.done))) 1 10 (MX.mv 1 0 (MX.mv 1 11 (MX.mv 1 12 MX.done))))))))))))) ?_ (by kernel_rfl) ?_; rfl)) | ((with_reducible refine ex_mark ?_); first | refine dq_ptrE u74 rfl rfl ?_ | refine dq_ptrN u74 rfl rfl ?_ | refine dq_pnilE u74 rfl rfl ?_ | refine dq_pnilN u74 rfl rfl ?_) | ((with_reducible refine ECall.mark ?_); first | refine ECall.only ?_ (fun h => nomatch h) | refine ECall.only ?_ ?_) | ((with_reducible refine Drawn.mark ?_); first | refine Drawn.quiet (by kernel_rfl) ?_) | refine dloadE_map (lf0) ?_ ?_ | refine dcell_ok rfl ?_ | refine AppC.new ?_))
          all_goals try ((conv => whnf); with_reducible refine Round.mark ?_)
          all_goals try first | ((with_reducible show Option.isSome (slElem _ _) = true); kernel_rfl) | ((with_reducible show slElem _ _ = some _); kernel_rfl) | ((with_reducible refine enters_mark ?_); kernel_rfl) | (with_reducible assumption) | ((with_reducible show List.all _ DV.one = true); rfl) | ((with_reducible show (_ : Nat) = _); rfl) | ((with_reducible show (_ == true) = true); first | (simp; done) | simpa using h) | ((with_reducible show (_ : Nat) ≤ _); exact Nat.le_of_ble_eq_true rfl) | ((with_reducible show (_ : Int) ≤ _); first | omega | decide) | ((with_reducible show (_ : Int) < _); first | omega | decide) | ((with_reducible show (_ : Nat) < _); omega) | ((with_reducible show (_ : Nat) ≤ _); omega)
          all_goals try (first | (with_reducible exact tnb h) | (with_reducible exact gf0) | (with_reducible exact gf1 (nz_cons _ _)) | (with_reducible exact gf2 (nz_cons _ _)) | (with_reducible exact gp1 (pos_cons _ _)) | (with_reducible exact gp2 (nz_cons _ _) (pos_cons _ _)) | (with_reducible exact gp3 (nz_cons _ _) (nz_cons _ _)) | (with_reducible exact of_decide_eq_true (pos_cons _ _)) | (exact ge1_cons _ _; done) | (exact Nat.succ_pos _; done) | ((with_reducible show Option.all _ _ = true); rfl) | (exact rc_b1 o; done) | (exact rc_b2 hol; done) | (exact rc_b3 hol; done))
          all_goals
            refine Round.go (fun _ => Bi.mk (x :: l) (m) (o ++ [(⟨y.p, false, emB, true, y.v⟩ : Ch)])) ?_ ?_ (Weak.list [(5, some 7)] [] (by kernel_rfl) ?_ ?_)
            · exact ⟨by show (o ++ [(⟨y.p, false, emB, true, y.v⟩ : Ch)]).length + (x :: l).length + (m).length ≤ _; simp only [List.length_append, List.length_cons, List.length_nil] at hi1 ⊢; omega, by show (o ++ [(⟨y.p, false, emB, true, y.v⟩ : Ch)]) ++ _ = _; rw [← hi2, mLL, mLL, mrg_gt k1 k2]; exact (List.append_assoc o [_] _)⟩
            · show (x :: l).length + (m).length < (x :: l).length + (y :: m).length
              exact Nat.add_lt_add_left (Nat.lt_succ_self _) _
            iterate 2 · repeat' (first | exact DW.lstE (tl1 y m) | exact DW.arrE rfl (pushC o _) | exact DWl.eq (rowC_push o (⟨y.p, false, emB, true, y.v⟩ : Ch)) (rowC_all _) | exact DW.same _ rfl | exact DW.ref _ _ _ rfl | exact DW.arr _ _ _ rfl | exact OW.cells rfl rfl (DWl.same rfl) | refine OW.cells rfl rfl ?_ | refine DWl.cons ?_ ?_ | exact DWl.nil | exact DW.nilArr _ rfl | exact DW.nilLst _ | refine DW.clol ?_ ?_ | refine DW.aggl ?_ | refine DW.tupl ?_ | refine DW.int ?_ | refine DW.bool ?_ | refine DW.str ?_ | refine DW.arrE rfl ?_ | ((conv => whnf); first | refine And.intro ?_ ?_ | trivial))
        · have k2 := eq_false_of_ne_true k2
          have hT6 : (bif ((((x :: l).map lfD).length : Nat) : Int) == 0 then true else !(Op.bytesLess ((x :: l).getD (Int.toNat 0) lf0).p.toList ((y :: m).getD (Int.toNat 0) lf0).p.toList || ((x :: l).getD (Int.toNat 0) lf0).p == ((y :: m).getD (Int.toNat 0) lf0).p)) = false := by rw [nz_cons]; exact gt_2 k1 k2
          by_cases hv : x.v = y.v
          · have hV : (((x :: l).getD (Int.toNat 0) lf0).v != ((y :: m).getD (Int.toNat 0) lf0).v) = false := bne_f hv
            repeat' (first | with_reducible rfl | ((conv => whnf); first | refine And.intro ?_ ?_ | (intro h; first | with_reducible exact tf_no h | with_reducible exact ft_no h | exact Bool.noConfusion h | with_reducible exact h | (exfalso; exact bt_x hT h) | (exfalso; exact bt_x hT4 h) | (exfalso; exact bt_x hT6 h) | (exfalso; exact bt_x hV h) | (have ht : true = true := h; clear ht h) | skip) | ((with_reducible refine SCall.mark ?_); first | refine SCall.data (of33_D _) rfl rfl ?_ | refine SCall.scal (of33_D _) rfl rfl ?_) | ((with_reducible refine PCall.mark ?_); first | refine PCall.mk (of33_D _) rfl rfl ?_) | ((with_reducible refine GCall.mark ?_); first | refine GCall.data (fun _ => of33_D _) rfl rfl ?_ | refine GCall.scal (fun _ => of33_D _) rfl rfl ?_) | ((with_reducible refine MCall.mark ?_); first | refine MCall.data (fun _ => of33_D _) rfl rfl ?_ | refine MCall.plain (PCall.mk (of33_D _) rfl rfl ?_)) | ((with_reducible refine ex_mark ?_); first | refine dq_ptrE u74 rfl rfl ?_ | refine dq_ptrN u74 rfl rfl ?_ | refine dq_pnilE u74 rfl rfl ?_ | refine dq_pnilN u74 rfl rfl ?_) | ((with_reducible refine ECall.mark ?_); first | refine ECall.only ?_ (fun h => nomatch h) | refine ECall.only ?_ ?_) | ((with_reducible refine Drawn.mark ?_); first | refine Drawn.quiet (by kernel_rfl) ?_) | refine dloadE_map (lf0) ?_ ?_ | refine dcell_ok rfl ?_ | refine AppC.new ?_))
            all_goals try ((conv => whnf); with_reducible refine Round.mark ?_)
            all_goals try first | ((with_reducible show Option.isSome (slElem _ _) = true); kernel_rfl) | ((with_reducible show slElem _ _ = some _); kernel_rfl) | ((with_reducible refine enters_mark ?_); kernel_rfl) | (with_reducible assumption) | ((with_reducible show List.all _ DV.one = true); rfl) | ((with_reducible show (_ : Nat) = _); rfl) | ((with_reducible show (_ == true) = true); first | (simp; done) | simpa using h) | ((with_reducible show (_ : Nat) ≤ _); exact Nat.le_of_ble_eq_true rfl) | ((with_reducible show (_ : Int) ≤ _); first | omega | decide) | ((with_reducible show (_ : Int) < _); first | omega | decide) | ((with_reducible show (_ : Nat) < _); omega) | ((with_reducible show (_ : Nat) ≤ _); omega)
            all_goals try (first | (with_reducible exact tnb h) | (with_reducible exact gf0) | (with_reducible exact gf1 (nz_cons _ _)) | (with_reducible exact gf2 (nz_cons _ _)) | (with_reducible exact gp1 (pos_cons _ _)) | (with_reducible exact gp2 (nz_cons _ _) (pos_cons _ _)) | (with_reducible exact gp3 (nz_cons _ _) (nz_cons _ _)) | (with_reducible exact of_decide_eq_true (pos_cons _ _)) | (exact ge1_cons _ _; done) | (exact Nat.succ_pos _; done) | ((with_reducible show Option.all _ _ = true); rfl) | (exact rc_b1 o; done) | (exact rc_b2 hol; done) | (exact rc_b3 hol; done))
            all_goals
              refine Round.go (fun _ => Bi.mk (l) (m) (o)) ?_ ?_ (Weak.list [(5, some 5)] [] (by kernel_rfl) ?_ ?_)
              · exact ⟨by show (o).length + (l).length + (m).length ≤ _; simp only [List.length_cons] at hi1 ⊢; omega, by show (o) ++ _ = _; rw [← hi2, mLL, mLL, mrg_eq k1 k2, List.filterMap_cons, bet_ss, decide_eq_true hv]; rfl⟩
              · show (l).length + (m).length < (x :: l).length + (y :: m).length
                exact Nat.add_lt_add (Nat.lt_succ_self _) (Nat.lt_succ_self _)
              iterate 2 · repeat' (first | exact DW.lstE (tl1 x l) | exact DW.lstE (tl1 y m) | exact DWl.same (rowC_all _) | exact DW.same _ rfl | exact DW.ref _ _ _ rfl | exact DW.arr _ _ _ rfl | exact OW.cells rfl rfl (DWl.same rfl) | refine OW.cells rfl rfl ?_ | refine DWl.cons ?_ ?_ | exact DWl.nil | exact DW.nilArr _ rfl | exact DW.nilLst _ | refine DW.clol ?_ ?_ | refine DW.aggl ?_ | refine DW.tupl ?_ | refine DW.int ?_ | refine DW.bool ?_ | refine DW.str ?_ | refine DW.arrE rfl ?_ | ((conv => whnf); first | refine And.intro ?_ ?_ | trivial))
          · have hV : (((x :: l).getD (Int.toNat 0) lf0).v != ((y :: m).getD (Int.toNat 0) lf0).v) = true := bne_t hv
            repeat' (first | with_reducible rfl | ((conv => whnf); first | refine And.intro ?_ ?_ | (intro h; first | with_reducible exact tf_no h | with_reducible exact ft_no h | exact Bool.noConfusion h | with_reducible exact h | (exfalso; exact bt_x hT h) | (exfalso; exact bt_x hT4 h) | (exfalso; exact bt_x hT6 h) | (exfalso; exact bt_x hV h) | (have ht : true = true := h; clear ht h) | skip) | ((with_reducible refine SCall.mark ?_); first | refine SCall.data (of33_D _) rfl rfl ?_ | refine SCall.scal (of33_D _) rfl rfl ?_) | ((with_reducible refine PCall.mark ?_); first | refine PCall.mk (of33_D _) rfl rfl ?_) | ((with_reducible refine GCall.mark ?_); first | refine GCall.data (fun _ => of33_D _) rfl rfl ?_ | refine GCall.scal (fun _ => of33_D _) rfl rfl ?_) | ((with_reducible refine MCall.mark ?_); first | refine MCall.data (fun _ => of33_D _) rfl rfl ?_ | refine MCall.plain (PCall.mk (of33_D _) rfl rfl ?_)) | ((with_reducible refine Tri.mark ?_); first | (refine Tri.treeX [0, 5] (MX.mv 0 1 (MX.mv 0 2 (MX.mv 0 3 (MX.mv 0 4 (MX.mv 0 5 (MX.mv 0 6 (MX.mv 0 7 (MX.mv 0 8 (MX.mv 0 9 (MX.mv 0 10 (MX.mv 0 11 (MX.mv 0 12 (MX.mv 0 13 (MX.two 1 0 (MX.mv 1 14 (MX.mv 1 15 (MX.mv 1 16 MX.done))) 1 14 (MX.mv 1 0 (MX.mv 1 15 (MX.mv 1 16 MX.done))))))))))))))))) ?_ (by kernel_rfl) ?_; rfl)) | ((with_reducible refine ex_mark ?_); first | refine dq_ptrE u74 rfl rfl ?_ | refine dq_ptrN u74 rfl rfl ?_ | refine dq_pnilE u74 rfl rfl ?_ | refine dq_pnilN u74 rfl rfl ?_) | ((with_reducible refine ECall.mark ?_); first | refine ECall.only ?_ (fun h => nomatch h) | refine ECall.only ?_ ?_) | ((with_reducible refine Drawn.mark ?_); first | refine Drawn.quiet (by kernel_rfl) ?_) | refine dloadE_map (lf0) ?_ ?_ | refine dcell_ok rfl ?_ | refine AppC.new ?_))
            all_goals try ((conv => whnf); with_reducible refine Round.mark ?_)
            all_goals try first | ((with_reducible show Option.isSome (slElem _ _) = true); kernel_rfl) | ((with_reducible show slElem _ _ = some _); kernel_rfl) | ((with_reducible refine enters_mark ?_); kernel_rfl) | (with_reducible assumption) | ((with_reducible show List.all _ DV.one = true); rfl) | ((with_reducible show (_ : Nat) = _); rfl) | ((with_reducible show (_ == true) = true); first | (simp; done) | simpa using h) | ((with_reducible show (_ : Nat) ≤ _); exact Nat.le_of_ble_eq_true rfl) | ((with_reducible show (_ : Int) ≤ _); first | omega | decide) | ((with_reducible show (_ : Int) < _); first | omega | decide) | ((with_reducible show (_ : Nat) < _); omega) | ((with_reducible show (_ : Nat) ≤ _); omega)
            all_goals try (first | (with_reducible exact tnb h) | (with_reducible exact gf0) | (with_reducible exact gf1 (nz_cons _ _)) | (with_reducible exact gf2 (nz_cons _ _)) | (with_reducible exact gp1 (pos_cons _ _)) | (with_reducible exact gp2 (nz_cons _ _) (pos_cons _ _)) | (with_reducible exact gp3 (nz_cons _ _) (nz_cons _ _)) | (with_reducible exact of_decide_eq_true (pos_cons _ _)) | (exact ge1_cons _ _; done) | (exact Nat.succ_pos _; done) | ((with_reducible show Option.all _ _ = true); rfl) | (exact rc_b1 o; done) | (exact rc_b2 hol; done) | (exact rc_b3 hol; done))
            all_goals
              refine Round.go (fun _ => Bi.mk (l) (m) (o ++ [(⟨x.p, true, x.v, true, y.v⟩ : Ch)])) ?_ ?_ (Weak.list [(5, some 7)] [] (by kernel_rfl) ?_ ?_)
              · exact ⟨by show (o ++ [(⟨x.p, true, x.v, true, y.v⟩ : Ch)]).length + (l).length + (m).length ≤ _; simp only [List.length_append, List.length_cons, List.length_nil] at hi1 ⊢; omega, by show (o ++ [(⟨x.p, true, x.v, true, y.v⟩ : Ch)]) ++ _ = _; rw [← hi2, mLL, mLL, mrg_eq k1 k2, List.filterMap_cons, bet_ss, decide_eq_false hv]; exact (List.append_assoc o [_] _)⟩
              · show (l).length + (m).length < (x :: l).length + (y :: m).length
                exact Nat.add_lt_add (Nat.lt_succ_self _) (Nat.lt_succ_self _)
              iterate 2 · repeat' (first | exact DW.lstE (tl1 x l) | exact DW.lstE (tl1 y m) | exact DW.arrE rfl (pushC o _) | exact DWl.eq (rowC_push o (⟨x.p, true, x.v, true, y.v⟩ : Ch)) (rowC_all _) | exact DW.same _ rfl | exact DW.ref _ _ _ rfl | exact DW.arr _ _ _ rfl | exact OW.cells rfl rfl (DWl.same rfl) | refine OW.cells rfl rfl ?_ | refine DWl.cons ?_ ?_ | exact DWl.nil | exact DW.nilArr _ rfl | exact DW.nilLst _ | refine DW.clol ?_ ?_ | refine DW.aggl ?_ | refine DW.tupl ?_ | refine DW.int ?_ | refine DW.bool ?_ | refine DW.str ?_ | refine DW.arrE rfl ?_ | ((conv => whnf); first | refine And.intro ?_ ?_ | trivial))
end Go.Proofs.YtagfmppjlfhmeaaGreatDoor

namespace Go.Proofs.YtagfmppjlfhmeaaGreatDoor
open Go.RowKit Go.Dl
attribute [local irreducible] Tri SCall TSem ECall Drawn DFun QSem PSem PCall GCall MCall Round Weak dloadE OW DWl Tells IntKind.wrap Retold ESem
theorem u75 : Tryz.prog.underlying 75 = some (.pointer (Tryz.prog.pointee 75)) := by kernel_rfl
def rowL (l : List Lf) : List DV := (l.map lfD).flatten
theorem rowL_cons (x : Lf) (l : List Lf) : rowL (x :: l) = lfD x ++ rowL l := rfl
theorem rowL_append (l m : List Lf) : rowL (l ++ m) = rowL l ++ rowL m := by simp [rowL]
theorem rowL_len (l : List Lf) : (rowL l).length = l.length * 2 := by
  induction l with
  | nil => rfl
  | cons a l ih => rw [rowL_cons, List.length_append, ih]; simp [lfD]; omega
theorem rowL_all (l : List Lf) : (rowL l).all noId1 = true := by
  induction l with
  | nil => rfl
  | cons a l ih => rw [rowL_cons, List.all_append, ih]; rfl
theorem rowL_push (l : List Lf) (p : Lf) : (rowL l).take (l.length * 2) ++ lfD p = rowL (l ++ [p]) := by
  rw [List.take_of_length_le (by rw [rowL_len]; exact Nat.le_refl _), rowL_append]; simp [rowL]
theorem pushL (P : List Lf) (x : Lf) : P.length + 1 = (P ++ [x]).length := by simp
theorem lfRow {l : List Lf} : ∀ r ∈ l.map lfD, r.length = 2 ∧ r.all isData1 = true := by
  intro r hr
  obtain ⟨c, _, rfl⟩ := List.mem_map.1 hr
  exact ⟨rfl, rfl⟩
set_option maxRecDepth 20000 in
theorem rl_b1 (P : List Lf) : P.length * Tryz.prog.types[35].size ≤ (rowL P).length := by
  show P.length * 2 ≤ _
  rw [rowL_len]; exact Nat.le_refl _
set_option maxRecDepth 20000 in
theorem rl_b2 {P : List Lf} (h : P.length ≤ 8388608) : (P.length + 1) * Tryz.prog.types[35].bytes ≤ 140737488355328 := by
  show (P.length + 1) * 32 ≤ _
  omega
theorem rl_b3 {P : List Lf} (h : P.length ≤ 8388608) : P.length + 1 ≤ maxLen := by simp only [maxLen]; omega
set_option maxRecDepth 20000 in
set_option maxHeartbeats 1000000 in
theorem wr35_xn (l : List Lf) : DPure Tryz.prog 35 [.lref 2 (l.map lfD) (Int.toNat 0) 0, .v (.pointer none)] (int1 0) := by
  refine DFun.data (DFun.body Tryz.func35 rfl (by kernel_rfl) ?_)
  repeat' (first | with_reducible rfl | ((conv => whnf); first | refine And.intro ?_ ?_ | (intro h; first | with_reducible exact tf_no h | with_reducible exact ft_no h | exact Bool.noConfusion h | with_reducible exact h | (have ht : true = true := h; clear ht h) | skip) | ((with_reducible refine ex_mark ?_); first | refine dq_pnilE u75 rfl rfl ?_) | ((with_reducible refine ECall.mark ?_); first | refine ECall.only ?_ (fun h => nomatch h) | refine ECall.only ?_ ?_) | ((with_reducible refine Drawn.mark ?_); first | refine Drawn.quiet (by kernel_rfl) ?_) | refine dloadE_map (lf0) ?_ ?_ | refine dcell_ok rfl ?_ | refine AppC.new ?_))
  all_goals (conv => whnf)
  all_goals exact Tells.mk (DW.same _ rfl)
theorem z_cons {α : Type} (x : α) (l : List α) : Int.toNat 0 < (x :: l).length := Nat.succ_pos _
theorem posc {α : Type} {f : α → List DV} (x : α) (l : List α) : decide ((0 : Int) < ((((x :: l).map f).length : Nat) : Int)) = true := decide_eq_true (by rw [List.length_map, List.length_cons]; omega)
theorem nzc {α : Type} {f : α → List DV} (x : α) (l : List α) : (((((x :: l).map f).length : Nat) : Int) == 0) = false := by
  rw [beq_eq_false_iff_ne, List.length_map, List.length_cons]; omega
theorem ge1c {α : Type} {f : α → List DV} (x : α) (l : List α) : (1 : Int) ≤ ((((x :: l).map f).length : Nat) : Int) := by
  rw [List.length_map, List.length_cons]; omega
theorem gf0c {α : Type} {f : α → List DV} : (decide ((0 : Int) < (((([] : List α).map f).length : Nat) : Int)) == false) = true := rfl
theorem tlc {α : Type} {f : α → List DV} (x : α) (l : List α) : ((((x :: l).map f).take ((x :: l).map f).length).drop 1) = l.map f := by
  rw [List.take_length]; rfl
set_option maxRecDepth 20000 in
set_option maxHeartbeats 1000000 in
theorem wr35_nc (c : Ch) (m : List Ch) : DPure Tryz.prog 35 [.v (.pointer none), .lref 5 ((c :: m).map chD) (Int.toNat 0) 0] (int1 (wr (none, some c))) := by
  obtain ⟨p, hw, was, hi, is⟩ := c
  cases hw
  all_goals
    refine DFun.data (DFun.body Tryz.func35 rfl (by kernel_rfl) ?_)
    repeat' (first | with_reducible rfl | ((conv => whnf); first | refine And.intro ?_ ?_ | (intro h; first | with_reducible exact tf_no h | with_reducible exact ft_no h | exact Bool.noConfusion h | with_reducible exact h | (have ht : true = true := h; clear ht h) | skip) | ((with_reducible refine ex_mark ?_); first | refine dq_ptrE u75 rfl rfl ?_ | refine dq_pnilEw u74 ?_ rfl ?_ rfl ?_ | refine dq_pnilNw u74 ?_ rfl ?_ rfl ?_ | refine dq_off rfl ?_) | ((with_reducible refine ECall.mark ?_); first | refine ECall.only ?_ (fun h => nomatch h) | refine ECall.only ?_ ?_) | ((with_reducible refine Drawn.mark ?_); first | refine Drawn.quiet (by kernel_rfl) ?_) | refine dloadE_map (ch0) ?_ ?_ | refine dloadE_map (lf0) ?_ ?_ | refine dcell_ok rfl ?_ | refine AppC.new ?_))
    all_goals try first | ((with_reducible show Option.isSome (slElem _ _) = true); kernel_rfl) | ((with_reducible show slElem _ _ = some _); kernel_rfl) | ((with_reducible refine enters_mark ?_); kernel_rfl) | (with_reducible assumption) | ((with_reducible show List.all _ DV.one = true); rfl) | ((with_reducible show (_ : Nat) = _); rfl) | ((with_reducible show (_ == true) = true); first | (simp; done) | simpa using h) | ((with_reducible show (_ : Nat) ≤ _); exact Nat.le_of_ble_eq_true rfl) | ((with_reducible show (_ : Int) ≤ _); first | omega | decide) | ((with_reducible show (_ : Int) < _); first | omega | decide) | ((with_reducible show (_ : Nat) < _); omega) | ((with_reducible show (_ : Nat) ≤ _); omega)
    all_goals try (first | (with_reducible exact z_cons _ _) | ((with_reducible show wok _); (conv => whnf); trivial) | ((conv => whnf); exact Tells.mk (DW.same _ rfl)) | rfl)
theorem wr_x1 {x : Lf} {c : Ch} (k : c.hw = true) (h : (x.v != c.was) = true) : wr (some x, some c) = 54 := by
  show (bif c.hw then (bif decide (x.v = c.was) then (0 : Int) else 54) else 42) = 54
  rw [k, decide_eq_false (bne_iff.1 h)]; rfl
theorem wr_x2 {x : Lf} {c : Ch} (k : c.hw = true) (h : (x.v != c.was) = false) : wr (some x, some c) = 0 := by
  show (bif c.hw then (bif decide (x.v = c.was) then (0 : Int) else 54) else 42) = 0
  rw [k, decide_eq_true (Classical.byContradiction fun e => by rw [bne_iff.2 e] at h; cases h)]; rfl
set_option maxRecDepth 20000 in
set_option maxHeartbeats 1000000 in
theorem wr35_xc (x : Lf) (l : List Lf) (c : Ch) (m : List Ch) : DPure Tryz.prog 35 [.lref 2 ((x :: l).map lfD) (Int.toNat 0) 0, .lref 5 ((c :: m).map chD) (Int.toNat 0) 0] (int1 (wr (some x, some c))) := by
  obtain ⟨p, hw, was, hi, is⟩ := c
  cases hw
  all_goals
    refine DFun.data (DFun.body Tryz.func35 rfl (by kernel_rfl) ?_)
    repeat' (first | with_reducible rfl | ((conv => whnf); first | refine And.intro ?_ ?_ | (intro h; first | with_reducible exact tf_no h | with_reducible exact ft_no h | exact Bool.noConfusion h | with_reducible exact h | (have ht : true = true := h; clear ht h) | skip) | ((with_reducible refine ex_mark ?_); first | refine dq_ptrE u75 rfl rfl ?_ | refine dq_ptrEw u74 ?_ rfl ?_ rfl ?_ | refine dq_ptrNw u74 ?_ rfl ?_ rfl ?_) | ((with_reducible refine ECall.mark ?_); first | refine ECall.only ?_ (fun h => nomatch h) | refine ECall.only ?_ ?_) | ((with_reducible refine Drawn.mark ?_); first | refine Drawn.quiet (by kernel_rfl) ?_) | refine dloadE_map (ch0) ?_ ?_ | refine dloadE_map (lf0) ?_ ?_ | refine dcell_ok rfl ?_ | refine AppC.new ?_))
    all_goals try first | ((with_reducible show Option.isSome (slElem _ _) = true); kernel_rfl) | ((with_reducible show slElem _ _ = some _); kernel_rfl) | ((with_reducible refine enters_mark ?_); kernel_rfl) | (with_reducible assumption) | ((with_reducible show List.all _ DV.one = true); rfl) | ((with_reducible show (_ : Nat) = _); rfl) | ((with_reducible show (_ == true) = true); first | (simp; done) | simpa using h) | ((with_reducible show (_ : Nat) ≤ _); exact Nat.le_of_ble_eq_true rfl) | ((with_reducible show (_ : Int) ≤ _); first | omega | decide) | ((with_reducible show (_ : Int) < _); first | omega | decide) | ((with_reducible show (_ : Nat) < _); omega) | ((with_reducible show (_ : Nat) ≤ _); omega)
    all_goals try (first | (with_reducible exact z_cons _ _) | ((with_reducible show wok _); (conv => whnf); trivial) | ((conv => whnf); exact Tells.mk (DW.same _ rfl)) | ((conv => whnf); exact Tells.of (congrArg int1 (wr_x1 rfl h)) (Tells.mk (DW.same _ rfl))) | ((conv => whnf); exact Tells.of (congrArg int1 (wr_x2 rfl h)) (Tells.mk (DW.same _ rfl))) | rfl)
end Go.Proofs.YtagfmppjlfhmeaaGreatDoor
