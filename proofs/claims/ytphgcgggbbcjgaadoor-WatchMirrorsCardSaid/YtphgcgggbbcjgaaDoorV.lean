/- What WatchMirrors computes. -/
import Derived.Test.YtphgcgggbbcjgaaDoorV0
namespace Go.Proofs.YtphgcgggbbcjgaaDoor
open Go.RowKit Go.Dl
attribute [local irreducible] Tri SCall DFun QSem PSem PCall GCall MCall Round Weak dloadE OW DWl Tells IntKind.wrap Retold ESem

theorem wneg {x : Int} (h : -2147483647 ≤ x ∧ x ≤ 2147483647) : IntKind.i64.wrap (0 - x) = -x := by rw [wrapI (by omega) (by omega)]; omega
theorem wnegneg {x : Int} (h : flowB x = true) : IntKind.i64.wrap (0 - -x) = x := by
  have := flow_iff.1 h
  rw [wrapI (by omega) (by omega)]; omega
def mirSt (a b : Al) (L : List Sm) (i : Nat × List Sm) : St := ⟨0, tmOf [(2, .ref 0 0), (5, .ref 1 0), (6, sms L), (7, .arr 2 i.2.length), (8, int1 i.1)], .of [(0, ⟨23, 4, alD a⟩), (1, ⟨23, 4, alD b⟩), (2, ⟨27, 3, rowS i.2⟩)] 3⟩
def MirI (L : List Sm) (i : Nat × List Sm) : Prop := i.1 ≤ L.length ∧ i.2 = (L.take i.1).map mirM
theorem miri_len {L : List Sm} {i : Nat × List Sm} (hi : MirI L i) (hlt : i.1 < L.length) : i.2.length < L.length := by
  rw [hi.2, List.length_map, List.length_take]; omega
theorem miri_next {L : List Sm} {i : Nat × List Sm} (hi : MirI L i) (hlt : i.1 < L.length) : MirI L (i.1 + 1, i.2 ++ [mirM (L.getD ((i.1 : Nat) : Int).toNat sm0)]) := by
  rw [Int.toNat_natCast]
  refine ⟨hlt, ?_⟩
  simp only
  rw [take_succ (d := sm0) hlt, List.map_append, hi.2]; rfl
theorem miri_push {P : List Sm} {m : Sm} (h : flowB m.value = true) : (rowS P).take (P.length * 3) ++ [int1 m.tick, bl m.has, int1 (IntKind.i64.wrap (0 - m.value))] = rowS (P ++ [mirM m]) := by
  rw [wneg (flow_iff.1 h)]
  exact rowS_push P (mirM m)
theorem fitL_mem {l : List Sm} {k : Nat} (h : k < (fitL l).length) : sampleB ((fitL l).getD k sm0) = true := by
  have hm : (fitL l).getD k sm0 ∈ fitL l := by rw [List.getD_eq_getElem?_getD, List.getElem?_eq_getElem h]; exact List.getElem_mem h
  exact (List.mem_filter.1 hm).2
theorem fitL_len (l : List Sm) : (fitL l).length ≤ l.length := List.length_filter_le _ _
theorem mir_flowV {l : List Sm} {i : Nat × List Sm} (hlt : i.1 < (fitL l).length) : flowB ((fitL l).getD ((i.1 : Nat) : Int).toNat sm0).value = true := by
  rw [Int.toNat_natCast]
  exact (sample_iff.1 (fitL_mem hlt)).2.1
theorem play_state {a : Al} {l : List Sm} (hf : fitA a = true) : stateB a (playT a (fitL l)).1 = true :=
  (mir_play (l := fitL l) hf (fun m hm => (List.mem_filter.1 hm).2) (fitL l).length (Nat.le_refl _)).2
theorem mir_end {X : Wt × List Nt} (h : flowB X.1.last = true) : (bif bif bif bif bif decide (X.2 = X.2) then X.1.on == X.1.on else false then X.1.run == X.1.run else false then X.1.last == IntKind.i64.wrap (0 - -X.1.last) else false then X.1.since == X.1.since else false then true else false) = true := by
  rw [wnegneg h]; simp
attribute [local irreducible] sampleB fitK rowS playT fitL mirM
set_option maxRecDepth 20000 in
set_option maxHeartbeats 1000000 in
theorem mirrors7_1 (l u o : Int) (S : List Sm) (hS : S.length * 24 ≤ 140737488355328) (hf : fitA ⟨1, l, u, o⟩ = true) : DPure Tryd.prog 7 [.agg (alD ⟨1, l, u, o⟩), sms S] (bl true) := by
  have h1 := fit_iff.1 hf
  have h15 := fit15_D ⟨1, l, u, o⟩
  rw [hf] at h15
  have hlen := fitL_len S
  have hb : fitA ⟨2, -u, -l, o⟩ = true := mir_fit hf
  have hp1 := play16_D ⟨1, l, u, o⟩ (fitL S) hf (by omega)
  have hp2 := play16_D ⟨2, -u, -l, o⟩ ((fitL S).map mirM) hb (by rw [List.length_map]; omega)
  rw [show playT ⟨2, -u, -l, o⟩ ((fitL S).map mirM) = _ from mir_all hf] at hp2
  have hst := play_state (l := S) hf
  have hfl := (state_iff.1 hst).2.2.2.1
  generalize playT ⟨1, l, u, o⟩ (fitL S) = X at *
  refine DFun.data (DFun.body Tryd.func7 rfl (by kernel_rfl) ?_)
  repeat' (first | with_reducible rfl | ((conv => whnf); first | refine And.intro ?_ ?_ | (intro h; first | exact Bool.noConfusion h | with_reducible exact h | (refine not_t h ?_; rfl) | (refine not_f h ?_; rfl) | (have ht : true = true := h; clear ht h) | skip) | ((with_reducible refine DWl.mark ?_); repeat' (first | refine DWl.cons ?_ ?_ | exact DWl.nil | exact DW.same _ rfl | exact DW.ref _ _ _ rfl | exact DW.arr _ _ _ rfl | exact DW.sub _ _ _ _ rfl | exact DW.nilLst _ | refine DW.aggl ?_ | refine DW.tupl ?_ | refine DW.clol ?_ ?_ | exact DW.pubG (l := (fitL S).map mirM) rfl rfl rfl rfl rfl (smsRow _) (rowS_eq _) | refine DW.int ?_ | refine DW.bool ?_ | refine DW.str ?_)) | ((with_reducible refine SCall.mark ?_); first | refine SCall.data (h15) rfl rfl ?_ | refine SCall.scal (h15) rfl rfl ?_ | refine SCall.data (fit23_D S hS) rfl rfl ?_ | refine SCall.scal (fit23_D S hS) rfl rfl ?_ | refine SCall.data (hp1) rfl rfl ?_ | refine SCall.scal (hp1) rfl rfl ?_ | refine SCall.tell [2] (hp2) ?_ rfl rfl ?_ | refine SCall.data (notes18_D _ _) rfl rfl ?_ | refine SCall.scal (notes18_D _ _) rfl rfl ?_ | refine SCall.data (awake12_D) rfl rfl ?_ | refine SCall.scal (awake12_D) rfl rfl ?_) | ((with_reducible refine PCall.mark ?_); first | refine PCall.mk (h15) rfl rfl ?_ | refine PCall.mk (fit23_D S hS) rfl rfl ?_ | refine PCall.mk (hp1) rfl rfl ?_ | refine PCall.mk (notes18_D _ _) rfl rfl ?_ | refine PCall.mk (awake12_D) rfl rfl ?_) | ((with_reducible refine GCall.mark ?_); first | refine GCall.data (fun _ => h15) rfl rfl ?_ | refine GCall.scal (fun _ => h15) rfl rfl ?_ | refine GCall.data (fun _ => fit23_D S hS) rfl rfl ?_ | refine GCall.scal (fun _ => fit23_D S hS) rfl rfl ?_ | refine GCall.data (fun _ => hp1) rfl rfl ?_ | refine GCall.scal (fun _ => hp1) rfl rfl ?_ | refine GCall.data (fun _ => notes18_D _ _) rfl rfl ?_ | refine GCall.scal (fun _ => notes18_D _ _) rfl rfl ?_ | refine GCall.data (fun _ => awake12_D) rfl rfl ?_ | refine GCall.scal (fun _ => awake12_D) rfl rfl ?_) | ((with_reducible refine MCall.mark ?_); first | refine MCall.data (fun _ => h15) rfl rfl ?_ | refine MCall.plain (PCall.mk (h15) rfl rfl ?_) | refine MCall.data (fun _ => fit23_D S hS) rfl rfl ?_ | refine MCall.plain (PCall.mk (fit23_D S hS) rfl rfl ?_) | refine MCall.data (fun _ => hp1) rfl rfl ?_ | refine MCall.plain (PCall.mk (hp1) rfl rfl ?_) | refine MCall.data (fun _ => notes18_D _ _) rfl rfl ?_ | refine MCall.plain (PCall.mk (notes18_D _ _) rfl rfl ?_) | refine MCall.data (fun _ => awake12_D) rfl rfl ?_ | refine MCall.plain (PCall.mk (awake12_D) rfl rfl ?_)) | ((with_reducible refine Tri.mark ?_); first | refine Tri.loop (mirSt ⟨1, l, u, o⟩ ⟨2, -u, -l, o⟩ (fitL S)) (MirI (fitL S)) (fun i => (fitL S).length - i.1) (0, []) (by kernel_rfl) (Weak.list [(0, some 0), (1, some 1), (2, none)] [] (by kernel_rfl) ?_ ?_) ?_ ?_ | (refine Tri.movesN [2] [(true, 0), (true, 1), (true, 2), (true, 3), (true, 4), (true, 5), (true, 6), (true, 7), (true, 8), (true, 9), (true, 10), (true, 11), (true, 12), (true, 13), (true, 14), (true, 15), (true, 16), (true, 17), (false, 18), (false, 19), (false, 20)] ?_ (by kernel_rfl) ?_; rfl)) | refine dloadE_map (sm0) ?_ ?_ | refine dcell_ok rfl ?_ | refine AppC.new ?_))
  all_goals first | (with_reducible refine enters_mark ?_; kernel_rfl) | (with_reducible refine boolT_mark ?_; kernel_rfl) | rfl | trivial | assumption | exact Nat.le_of_ble_eq_true rfl | (show entersB _ _ = true; kernel_rfl) | exact DW.same _ rfl | exact DW.ref _ _ _ rfl | exact DW.arr _ _ _ rfl | refine DW.int ?_ | refine dvb ?_ | refine dvi ?_ | exact OW.cells rfl rfl (DWl.same rfl) | exact Nat.zero_le _ | omega | skip
  all_goals repeat' (first | refine OW.cells rfl rfl ?_ | exact DW.nilArr _ rfl | refine DWl.cons ?_ ?_ | exact DWl.nil | exact DW.same _ rfl | exact DW.ref _ _ _ rfl | exact DW.arr _ _ _ rfl | exact DW.sub _ _ _ _ rfl | exact DW.nilLst _ | refine DW.aggl ?_ | refine DW.tupl ?_ | refine DW.clol ?_ ?_ | exact DW.pubG (l := (fitL S).map mirM) rfl rfl rfl rfl rfl (smsRow _) (rowS_eq _))
  all_goals try ((conv => whnf); with_reducible first | refine Round.mark ?_ | refine Tells.mark ?_ | refine Retold.mark ?_)
  all_goals try first | (show (_ : Bool) = _; simp_all; done) | (show (_ : Int) < _; simp at *; omega) | (show (_ : Int) ≤ _; simp at *; omega) | (show (_ : Nat) < _; simp at *; omega) | (show (_ : Nat) ≤ _; simp at *; omega)
  · refine DW.int ?_; first | exact wneg h1.2.2.1 | exact wneg h1.2.1
  · refine DW.int ?_; first | exact wneg h1.2.1 | exact wneg h1.2.2.1
  · conv => whnf
    exact rowS_zero
  · exact rs_b1 _
  · rename_i i hi
    exact rs_b2 (miri_len hi (lt_of_test h)) (by omega)
  · rename_i i hi
    exact rs_b3 (miri_len hi (lt_of_test h)) (by omega)
  · rename_i i hi
    have hlt := lt_of_test h
    refine Round.go (fun _ => (i.1 + 1, i.2 ++ [mirM ((fitL S).getD ((i.1 : Nat) : Int).toNat sm0)])) (miri_next hi hlt) (by show (fitL S).length - (i.1 + 1) < (fitL S).length - i.1; omega) (Weak.list [(0, some 0), (1, some 1), (2, some 4)] [] (by kernel_rfl) ?_ ?_)
    · repeat' (first | exact wsucc hlt (by omega) | exact DWl.eq (rfl : alD ⟨1, l, u, o⟩ = alD ⟨1, l, u, o⟩) (alD_all _) | exact DWl.eq (rfl : alD ⟨2, -u, -l, o⟩ = alD ⟨2, -u, -l, o⟩) (alD_all _) | exact DWl.eq (miri_push (mir_flowV hlt)) (rowS_all _) | exact pushS i.2 _ | exact DW.same _ rfl | exact DW.ref _ _ _ rfl | exact DW.arr _ _ _ rfl | exact OW.cells rfl rfl (DWl.same rfl) | refine OW.cells rfl rfl ?_ | refine DWl.cons ?_ ?_ | exact DWl.nil | exact DW.nilArr _ rfl | exact DW.nilLst _ | refine DW.clol ?_ ?_ | refine DW.aggl ?_ | refine DW.tupl ?_ | refine DW.int ?_ | refine DW.bool ?_ | refine DW.str ?_ | refine DW.arrE rfl ?_ | ((conv => whnf); first | refine And.intro ?_ ?_ | trivial))
    · repeat' (first | exact wsucc hlt (by omega) | exact DWl.eq (rfl : alD ⟨1, l, u, o⟩ = alD ⟨1, l, u, o⟩) (alD_all _) | exact DWl.eq (rfl : alD ⟨2, -u, -l, o⟩ = alD ⟨2, -u, -l, o⟩) (alD_all _) | exact DWl.eq (miri_push (mir_flowV hlt)) (rowS_all _) | exact pushS i.2 _ | exact DW.same _ rfl | exact DW.ref _ _ _ rfl | exact DW.arr _ _ _ rfl | exact OW.cells rfl rfl (DWl.same rfl) | refine OW.cells rfl rfl ?_ | refine DWl.cons ?_ ?_ | exact DWl.nil | exact DW.nilArr _ rfl | exact DW.nilLst _ | refine DW.clol ?_ ?_ | refine DW.aggl ?_ | refine DW.tupl ?_ | refine DW.int ?_ | refine DW.bool ?_ | refine DW.str ?_ | refine DW.arrE rfl ?_ | ((conv => whnf); first | refine And.intro ?_ ?_ | trivial))
  · rename_i i hi
    have hge := ge_of_test h
    have e4 : i.2 = (fitL S).map mirM := by rw [hi.2, List.take_of_length_le hge]
    exact DW.pubG (f := smD) (l := (fitL S).map mirM) (o := ⟨27, 3, rowS i.2⟩) rfl (by rw [← e4]) rfl rfl rfl (smsRow _) (by rw [← e4]; exact rowS_eq _)
  · conv => whnf
    exact Tells.mk (DW.bool (mir_end hfl))
set_option maxRecDepth 20000 in
set_option maxHeartbeats 1000000 in
theorem mirrors7_2 (l u o : Int) (S : List Sm) (hS : S.length * 24 ≤ 140737488355328) (hf : fitA ⟨2, l, u, o⟩ = true) : DPure Tryd.prog 7 [.agg (alD ⟨2, l, u, o⟩), sms S] (bl true) := by
  have h1 := fit_iff.1 hf
  have h15 := fit15_D ⟨2, l, u, o⟩
  rw [hf] at h15
  have hlen := fitL_len S
  have hb : fitA ⟨1, -u, -l, o⟩ = true := mir_fit hf
  have hp1 := play16_D ⟨2, l, u, o⟩ (fitL S) hf (by omega)
  have hp2 := play16_D ⟨1, -u, -l, o⟩ ((fitL S).map mirM) hb (by rw [List.length_map]; omega)
  rw [show playT ⟨1, -u, -l, o⟩ ((fitL S).map mirM) = _ from mir_all hf] at hp2
  have hst := play_state (l := S) hf
  have hfl := (state_iff.1 hst).2.2.2.1
  generalize playT ⟨2, l, u, o⟩ (fitL S) = X at *
  refine DFun.data (DFun.body Tryd.func7 rfl (by kernel_rfl) ?_)
  repeat' (first | with_reducible rfl | ((conv => whnf); first | refine And.intro ?_ ?_ | (intro h; first | exact Bool.noConfusion h | with_reducible exact h | (refine not_t h ?_; rfl) | (refine not_f h ?_; rfl) | (have ht : true = true := h; clear ht h) | skip) | ((with_reducible refine DWl.mark ?_); repeat' (first | refine DWl.cons ?_ ?_ | exact DWl.nil | exact DW.same _ rfl | exact DW.ref _ _ _ rfl | exact DW.arr _ _ _ rfl | exact DW.sub _ _ _ _ rfl | exact DW.nilLst _ | refine DW.aggl ?_ | refine DW.tupl ?_ | refine DW.clol ?_ ?_ | exact DW.pubG (l := (fitL S).map mirM) rfl rfl rfl rfl rfl (smsRow _) (rowS_eq _) | refine DW.int ?_ | refine DW.bool ?_ | refine DW.str ?_)) | ((with_reducible refine SCall.mark ?_); first | refine SCall.data (h15) rfl rfl ?_ | refine SCall.scal (h15) rfl rfl ?_ | refine SCall.data (fit23_D S hS) rfl rfl ?_ | refine SCall.scal (fit23_D S hS) rfl rfl ?_ | refine SCall.data (hp1) rfl rfl ?_ | refine SCall.scal (hp1) rfl rfl ?_ | refine SCall.tell [2] (hp2) ?_ rfl rfl ?_ | refine SCall.data (notes18_D _ _) rfl rfl ?_ | refine SCall.scal (notes18_D _ _) rfl rfl ?_ | refine SCall.data (awake12_D) rfl rfl ?_ | refine SCall.scal (awake12_D) rfl rfl ?_) | ((with_reducible refine PCall.mark ?_); first | refine PCall.mk (h15) rfl rfl ?_ | refine PCall.mk (fit23_D S hS) rfl rfl ?_ | refine PCall.mk (hp1) rfl rfl ?_ | refine PCall.mk (notes18_D _ _) rfl rfl ?_ | refine PCall.mk (awake12_D) rfl rfl ?_) | ((with_reducible refine GCall.mark ?_); first | refine GCall.data (fun _ => h15) rfl rfl ?_ | refine GCall.scal (fun _ => h15) rfl rfl ?_ | refine GCall.data (fun _ => fit23_D S hS) rfl rfl ?_ | refine GCall.scal (fun _ => fit23_D S hS) rfl rfl ?_ | refine GCall.data (fun _ => hp1) rfl rfl ?_ | refine GCall.scal (fun _ => hp1) rfl rfl ?_ | refine GCall.data (fun _ => notes18_D _ _) rfl rfl ?_ | refine GCall.scal (fun _ => notes18_D _ _) rfl rfl ?_ | refine GCall.data (fun _ => awake12_D) rfl rfl ?_ | refine GCall.scal (fun _ => awake12_D) rfl rfl ?_) | ((with_reducible refine MCall.mark ?_); first | refine MCall.data (fun _ => h15) rfl rfl ?_ | refine MCall.plain (PCall.mk (h15) rfl rfl ?_) | refine MCall.data (fun _ => fit23_D S hS) rfl rfl ?_ | refine MCall.plain (PCall.mk (fit23_D S hS) rfl rfl ?_) | refine MCall.data (fun _ => hp1) rfl rfl ?_ | refine MCall.plain (PCall.mk (hp1) rfl rfl ?_) | refine MCall.data (fun _ => notes18_D _ _) rfl rfl ?_ | refine MCall.plain (PCall.mk (notes18_D _ _) rfl rfl ?_) | refine MCall.data (fun _ => awake12_D) rfl rfl ?_ | refine MCall.plain (PCall.mk (awake12_D) rfl rfl ?_)) | ((with_reducible refine Tri.mark ?_); first | refine Tri.loop (mirSt ⟨2, l, u, o⟩ ⟨1, -u, -l, o⟩ (fitL S)) (MirI (fitL S)) (fun i => (fitL S).length - i.1) (0, []) (by kernel_rfl) (Weak.list [(0, some 0), (1, some 1), (2, none)] [] (by kernel_rfl) ?_ ?_) ?_ ?_ | (refine Tri.movesN [2] [(true, 0), (true, 1), (true, 2), (true, 3), (true, 4), (true, 5), (true, 6), (true, 7), (true, 8), (true, 9), (true, 10), (true, 11), (true, 12), (true, 13), (true, 14), (true, 15), (true, 16), (true, 17), (false, 18), (false, 19), (false, 20)] ?_ (by kernel_rfl) ?_; rfl)) | refine dloadE_map (sm0) ?_ ?_ | refine dcell_ok rfl ?_ | refine AppC.new ?_))
  all_goals first | (with_reducible refine enters_mark ?_; kernel_rfl) | (with_reducible refine boolT_mark ?_; kernel_rfl) | rfl | trivial | assumption | exact Nat.le_of_ble_eq_true rfl | (show entersB _ _ = true; kernel_rfl) | exact DW.same _ rfl | exact DW.ref _ _ _ rfl | exact DW.arr _ _ _ rfl | refine DW.int ?_ | refine dvb ?_ | refine dvi ?_ | exact OW.cells rfl rfl (DWl.same rfl) | exact Nat.zero_le _ | omega | skip
  all_goals repeat' (first | refine OW.cells rfl rfl ?_ | exact DW.nilArr _ rfl | refine DWl.cons ?_ ?_ | exact DWl.nil | exact DW.same _ rfl | exact DW.ref _ _ _ rfl | exact DW.arr _ _ _ rfl | exact DW.sub _ _ _ _ rfl | exact DW.nilLst _ | refine DW.aggl ?_ | refine DW.tupl ?_ | refine DW.clol ?_ ?_ | exact DW.pubG (l := (fitL S).map mirM) rfl rfl rfl rfl rfl (smsRow _) (rowS_eq _))
  all_goals try ((conv => whnf); with_reducible first | refine Round.mark ?_ | refine Tells.mark ?_ | refine Retold.mark ?_)
  all_goals try first | (show (_ : Bool) = _; simp_all; done) | (show (_ : Int) < _; simp at *; omega) | (show (_ : Int) ≤ _; simp at *; omega) | (show (_ : Nat) < _; simp at *; omega) | (show (_ : Nat) ≤ _; simp at *; omega)
  · refine DW.int ?_; first | exact wneg h1.2.2.1 | exact wneg h1.2.1
  · refine DW.int ?_; first | exact wneg h1.2.1 | exact wneg h1.2.2.1
  · conv => whnf
    exact rowS_zero
  · exact rs_b1 _
  · rename_i i hi
    exact rs_b2 (miri_len hi (lt_of_test h)) (by omega)
  · rename_i i hi
    exact rs_b3 (miri_len hi (lt_of_test h)) (by omega)
  · rename_i i hi
    have hlt := lt_of_test h
    refine Round.go (fun _ => (i.1 + 1, i.2 ++ [mirM ((fitL S).getD ((i.1 : Nat) : Int).toNat sm0)])) (miri_next hi hlt) (by show (fitL S).length - (i.1 + 1) < (fitL S).length - i.1; omega) (Weak.list [(0, some 0), (1, some 1), (2, some 4)] [] (by kernel_rfl) ?_ ?_)
    · repeat' (first | exact wsucc hlt (by omega) | exact DWl.eq (rfl : alD ⟨2, l, u, o⟩ = alD ⟨2, l, u, o⟩) (alD_all _) | exact DWl.eq (rfl : alD ⟨1, -u, -l, o⟩ = alD ⟨1, -u, -l, o⟩) (alD_all _) | exact DWl.eq (miri_push (mir_flowV hlt)) (rowS_all _) | exact pushS i.2 _ | exact DW.same _ rfl | exact DW.ref _ _ _ rfl | exact DW.arr _ _ _ rfl | exact OW.cells rfl rfl (DWl.same rfl) | refine OW.cells rfl rfl ?_ | refine DWl.cons ?_ ?_ | exact DWl.nil | exact DW.nilArr _ rfl | exact DW.nilLst _ | refine DW.clol ?_ ?_ | refine DW.aggl ?_ | refine DW.tupl ?_ | refine DW.int ?_ | refine DW.bool ?_ | refine DW.str ?_ | refine DW.arrE rfl ?_ | ((conv => whnf); first | refine And.intro ?_ ?_ | trivial))
    · repeat' (first | exact wsucc hlt (by omega) | exact DWl.eq (rfl : alD ⟨2, l, u, o⟩ = alD ⟨2, l, u, o⟩) (alD_all _) | exact DWl.eq (rfl : alD ⟨1, -u, -l, o⟩ = alD ⟨1, -u, -l, o⟩) (alD_all _) | exact DWl.eq (miri_push (mir_flowV hlt)) (rowS_all _) | exact pushS i.2 _ | exact DW.same _ rfl | exact DW.ref _ _ _ rfl | exact DW.arr _ _ _ rfl | exact OW.cells rfl rfl (DWl.same rfl) | refine OW.cells rfl rfl ?_ | refine DWl.cons ?_ ?_ | exact DWl.nil | exact DW.nilArr _ rfl | exact DW.nilLst _ | refine DW.clol ?_ ?_ | refine DW.aggl ?_ | refine DW.tupl ?_ | refine DW.int ?_ | refine DW.bool ?_ | refine DW.str ?_ | refine DW.arrE rfl ?_ | ((conv => whnf); first | refine And.intro ?_ ?_ | trivial))
  · rename_i i hi
    have hge := ge_of_test h
    have e4 : i.2 = (fitL S).map mirM := by rw [hi.2, List.take_of_length_le hge]
    exact DW.pubG (f := smD) (l := (fitL S).map mirM) (o := ⟨27, 3, rowS i.2⟩) rfl (by rw [← e4]) rfl rfl rfl (smsRow _) (by rw [← e4]; exact rowS_eq _)
  · conv => whnf
    exact Tells.mk (DW.bool (mir_end hfl))
set_option maxRecDepth 20000 in
set_option maxHeartbeats 1000000 in
theorem mirrors7_3 (l u o : Int) (S : List Sm) (hS : S.length * 24 ≤ 140737488355328) (hf : fitA ⟨3, l, u, o⟩ = true) : DPure Tryd.prog 7 [.agg (alD ⟨3, l, u, o⟩), sms S] (bl true) := by
  have h1 := fit_iff.1 hf
  have h15 := fit15_D ⟨3, l, u, o⟩
  rw [hf] at h15
  have hlen := fitL_len S
  have hb : fitA ⟨3, -u, -l, o⟩ = true := mir_fit hf
  have hp1 := play16_D ⟨3, l, u, o⟩ (fitL S) hf (by omega)
  have hp2 := play16_D ⟨3, -u, -l, o⟩ ((fitL S).map mirM) hb (by rw [List.length_map]; omega)
  rw [show playT ⟨3, -u, -l, o⟩ ((fitL S).map mirM) = _ from mir_all hf] at hp2
  have hst := play_state (l := S) hf
  have hfl := (state_iff.1 hst).2.2.2.1
  generalize playT ⟨3, l, u, o⟩ (fitL S) = X at *
  refine DFun.data (DFun.body Tryd.func7 rfl (by kernel_rfl) ?_)
  repeat' (first | with_reducible rfl | ((conv => whnf); first | refine And.intro ?_ ?_ | (intro h; first | exact Bool.noConfusion h | with_reducible exact h | (refine not_t h ?_; rfl) | (refine not_f h ?_; rfl) | (have ht : true = true := h; clear ht h) | skip) | ((with_reducible refine DWl.mark ?_); repeat' (first | refine DWl.cons ?_ ?_ | exact DWl.nil | exact DW.same _ rfl | exact DW.ref _ _ _ rfl | exact DW.arr _ _ _ rfl | exact DW.sub _ _ _ _ rfl | exact DW.nilLst _ | refine DW.aggl ?_ | refine DW.tupl ?_ | refine DW.clol ?_ ?_ | exact DW.pubG (l := (fitL S).map mirM) rfl rfl rfl rfl rfl (smsRow _) (rowS_eq _) | refine DW.int ?_ | refine DW.bool ?_ | refine DW.str ?_)) | ((with_reducible refine SCall.mark ?_); first | refine SCall.data (h15) rfl rfl ?_ | refine SCall.scal (h15) rfl rfl ?_ | refine SCall.data (fit23_D S hS) rfl rfl ?_ | refine SCall.scal (fit23_D S hS) rfl rfl ?_ | refine SCall.data (hp1) rfl rfl ?_ | refine SCall.scal (hp1) rfl rfl ?_ | refine SCall.tell [2] (hp2) ?_ rfl rfl ?_ | refine SCall.data (notes18_D _ _) rfl rfl ?_ | refine SCall.scal (notes18_D _ _) rfl rfl ?_ | refine SCall.data (awake12_D) rfl rfl ?_ | refine SCall.scal (awake12_D) rfl rfl ?_) | ((with_reducible refine PCall.mark ?_); first | refine PCall.mk (h15) rfl rfl ?_ | refine PCall.mk (fit23_D S hS) rfl rfl ?_ | refine PCall.mk (hp1) rfl rfl ?_ | refine PCall.mk (notes18_D _ _) rfl rfl ?_ | refine PCall.mk (awake12_D) rfl rfl ?_) | ((with_reducible refine GCall.mark ?_); first | refine GCall.data (fun _ => h15) rfl rfl ?_ | refine GCall.scal (fun _ => h15) rfl rfl ?_ | refine GCall.data (fun _ => fit23_D S hS) rfl rfl ?_ | refine GCall.scal (fun _ => fit23_D S hS) rfl rfl ?_ | refine GCall.data (fun _ => hp1) rfl rfl ?_ | refine GCall.scal (fun _ => hp1) rfl rfl ?_ | refine GCall.data (fun _ => notes18_D _ _) rfl rfl ?_ | refine GCall.scal (fun _ => notes18_D _ _) rfl rfl ?_ | refine GCall.data (fun _ => awake12_D) rfl rfl ?_ | refine GCall.scal (fun _ => awake12_D) rfl rfl ?_) | ((with_reducible refine MCall.mark ?_); first | refine MCall.data (fun _ => h15) rfl rfl ?_ | refine MCall.plain (PCall.mk (h15) rfl rfl ?_) | refine MCall.data (fun _ => fit23_D S hS) rfl rfl ?_ | refine MCall.plain (PCall.mk (fit23_D S hS) rfl rfl ?_) | refine MCall.data (fun _ => hp1) rfl rfl ?_ | refine MCall.plain (PCall.mk (hp1) rfl rfl ?_) | refine MCall.data (fun _ => notes18_D _ _) rfl rfl ?_ | refine MCall.plain (PCall.mk (notes18_D _ _) rfl rfl ?_) | refine MCall.data (fun _ => awake12_D) rfl rfl ?_ | refine MCall.plain (PCall.mk (awake12_D) rfl rfl ?_)) | ((with_reducible refine Tri.mark ?_); first | refine Tri.loop (mirSt ⟨3, l, u, o⟩ ⟨3, -u, -l, o⟩ (fitL S)) (MirI (fitL S)) (fun i => (fitL S).length - i.1) (0, []) (by kernel_rfl) (Weak.list [(0, some 0), (1, some 1), (2, none)] [] (by kernel_rfl) ?_ ?_) ?_ ?_ | (refine Tri.movesN [2] [(true, 0), (true, 1), (true, 2), (true, 3), (true, 4), (true, 5), (true, 6), (true, 7), (true, 8), (true, 9), (true, 10), (true, 11), (true, 12), (true, 13), (true, 14), (true, 15), (true, 16), (true, 17), (false, 18), (false, 19), (false, 20)] ?_ (by kernel_rfl) ?_; rfl)) | refine dloadE_map (sm0) ?_ ?_ | refine dcell_ok rfl ?_ | refine AppC.new ?_))
  all_goals first | (with_reducible refine enters_mark ?_; kernel_rfl) | (with_reducible refine boolT_mark ?_; kernel_rfl) | rfl | trivial | assumption | exact Nat.le_of_ble_eq_true rfl | (show entersB _ _ = true; kernel_rfl) | exact DW.same _ rfl | exact DW.ref _ _ _ rfl | exact DW.arr _ _ _ rfl | refine DW.int ?_ | refine dvb ?_ | refine dvi ?_ | exact OW.cells rfl rfl (DWl.same rfl) | exact Nat.zero_le _ | omega | skip
  all_goals repeat' (first | refine OW.cells rfl rfl ?_ | exact DW.nilArr _ rfl | refine DWl.cons ?_ ?_ | exact DWl.nil | exact DW.same _ rfl | exact DW.ref _ _ _ rfl | exact DW.arr _ _ _ rfl | exact DW.sub _ _ _ _ rfl | exact DW.nilLst _ | refine DW.aggl ?_ | refine DW.tupl ?_ | refine DW.clol ?_ ?_ | exact DW.pubG (l := (fitL S).map mirM) rfl rfl rfl rfl rfl (smsRow _) (rowS_eq _))
  all_goals try ((conv => whnf); with_reducible first | refine Round.mark ?_ | refine Tells.mark ?_ | refine Retold.mark ?_)
  all_goals try first | (show (_ : Bool) = _; simp_all; done) | (show (_ : Int) < _; simp at *; omega) | (show (_ : Int) ≤ _; simp at *; omega) | (show (_ : Nat) < _; simp at *; omega) | (show (_ : Nat) ≤ _; simp at *; omega)
  · refine DW.int ?_; first | exact wneg h1.2.2.1 | exact wneg h1.2.1
  · refine DW.int ?_; first | exact wneg h1.2.1 | exact wneg h1.2.2.1
  · conv => whnf
    exact rowS_zero
  · exact rs_b1 _
  · rename_i i hi
    exact rs_b2 (miri_len hi (lt_of_test h)) (by omega)
  · rename_i i hi
    exact rs_b3 (miri_len hi (lt_of_test h)) (by omega)
  · rename_i i hi
    have hlt := lt_of_test h
    refine Round.go (fun _ => (i.1 + 1, i.2 ++ [mirM ((fitL S).getD ((i.1 : Nat) : Int).toNat sm0)])) (miri_next hi hlt) (by show (fitL S).length - (i.1 + 1) < (fitL S).length - i.1; omega) (Weak.list [(0, some 0), (1, some 1), (2, some 4)] [] (by kernel_rfl) ?_ ?_)
    · repeat' (first | exact wsucc hlt (by omega) | exact DWl.eq (rfl : alD ⟨3, l, u, o⟩ = alD ⟨3, l, u, o⟩) (alD_all _) | exact DWl.eq (rfl : alD ⟨3, -u, -l, o⟩ = alD ⟨3, -u, -l, o⟩) (alD_all _) | exact DWl.eq (miri_push (mir_flowV hlt)) (rowS_all _) | exact pushS i.2 _ | exact DW.same _ rfl | exact DW.ref _ _ _ rfl | exact DW.arr _ _ _ rfl | exact OW.cells rfl rfl (DWl.same rfl) | refine OW.cells rfl rfl ?_ | refine DWl.cons ?_ ?_ | exact DWl.nil | exact DW.nilArr _ rfl | exact DW.nilLst _ | refine DW.clol ?_ ?_ | refine DW.aggl ?_ | refine DW.tupl ?_ | refine DW.int ?_ | refine DW.bool ?_ | refine DW.str ?_ | refine DW.arrE rfl ?_ | ((conv => whnf); first | refine And.intro ?_ ?_ | trivial))
    · repeat' (first | exact wsucc hlt (by omega) | exact DWl.eq (rfl : alD ⟨3, l, u, o⟩ = alD ⟨3, l, u, o⟩) (alD_all _) | exact DWl.eq (rfl : alD ⟨3, -u, -l, o⟩ = alD ⟨3, -u, -l, o⟩) (alD_all _) | exact DWl.eq (miri_push (mir_flowV hlt)) (rowS_all _) | exact pushS i.2 _ | exact DW.same _ rfl | exact DW.ref _ _ _ rfl | exact DW.arr _ _ _ rfl | exact OW.cells rfl rfl (DWl.same rfl) | refine OW.cells rfl rfl ?_ | refine DWl.cons ?_ ?_ | exact DWl.nil | exact DW.nilArr _ rfl | exact DW.nilLst _ | refine DW.clol ?_ ?_ | refine DW.aggl ?_ | refine DW.tupl ?_ | refine DW.int ?_ | refine DW.bool ?_ | refine DW.str ?_ | refine DW.arrE rfl ?_ | ((conv => whnf); first | refine And.intro ?_ ?_ | trivial))
  · rename_i i hi
    have hge := ge_of_test h
    have e4 : i.2 = (fitL S).map mirM := by rw [hi.2, List.take_of_length_le hge]
    exact DW.pubG (f := smD) (l := (fitL S).map mirM) (o := ⟨27, 3, rowS i.2⟩) rfl (by rw [← e4]) rfl rfl rfl (smsRow _) (by rw [← e4]; exact rowS_eq _)
  · conv => whnf
    exact Tells.mk (DW.bool (mir_end hfl))
set_option maxRecDepth 20000 in
set_option maxHeartbeats 1000000 in
theorem mirrors7_4 (l u o : Int) (S : List Sm) (hS : S.length * 24 ≤ 140737488355328) (hf : fitA ⟨4, l, u, o⟩ = true) : DPure Tryd.prog 7 [.agg (alD ⟨4, l, u, o⟩), sms S] (bl true) := by
  have h1 := fit_iff.1 hf
  have h15 := fit15_D ⟨4, l, u, o⟩
  rw [hf] at h15
  have hlen := fitL_len S
  have hb : fitA ⟨4, l, u, o⟩ = true := mir_fit hf
  have hp1 := play16_D ⟨4, l, u, o⟩ (fitL S) hf (by omega)
  have hp2 := play16_D ⟨4, l, u, o⟩ ((fitL S).map mirM) hb (by rw [List.length_map]; omega)
  rw [show playT ⟨4, l, u, o⟩ ((fitL S).map mirM) = _ from mir_all hf] at hp2
  have hst := play_state (l := S) hf
  have hfl := (state_iff.1 hst).2.2.2.1
  generalize playT ⟨4, l, u, o⟩ (fitL S) = X at *
  refine DFun.data (DFun.body Tryd.func7 rfl (by kernel_rfl) ?_)
  repeat' (first | with_reducible rfl | ((conv => whnf); first | refine And.intro ?_ ?_ | (intro h; first | exact Bool.noConfusion h | with_reducible exact h | (refine not_t h ?_; rfl) | (refine not_f h ?_; rfl) | (have ht : true = true := h; clear ht h) | skip) | ((with_reducible refine DWl.mark ?_); repeat' (first | refine DWl.cons ?_ ?_ | exact DWl.nil | exact DW.same _ rfl | exact DW.ref _ _ _ rfl | exact DW.arr _ _ _ rfl | exact DW.sub _ _ _ _ rfl | exact DW.nilLst _ | refine DW.aggl ?_ | refine DW.tupl ?_ | refine DW.clol ?_ ?_ | exact DW.pubG (l := (fitL S).map mirM) rfl rfl rfl rfl rfl (smsRow _) (rowS_eq _) | refine DW.int ?_ | refine DW.bool ?_ | refine DW.str ?_)) | ((with_reducible refine SCall.mark ?_); first | refine SCall.data (h15) rfl rfl ?_ | refine SCall.scal (h15) rfl rfl ?_ | refine SCall.data (fit23_D S hS) rfl rfl ?_ | refine SCall.scal (fit23_D S hS) rfl rfl ?_ | refine SCall.data (hp1) rfl rfl ?_ | refine SCall.scal (hp1) rfl rfl ?_ | refine SCall.tell [2] (hp2) ?_ rfl rfl ?_ | refine SCall.data (notes18_D _ _) rfl rfl ?_ | refine SCall.scal (notes18_D _ _) rfl rfl ?_ | refine SCall.data (awake12_D) rfl rfl ?_ | refine SCall.scal (awake12_D) rfl rfl ?_) | ((with_reducible refine PCall.mark ?_); first | refine PCall.mk (h15) rfl rfl ?_ | refine PCall.mk (fit23_D S hS) rfl rfl ?_ | refine PCall.mk (hp1) rfl rfl ?_ | refine PCall.mk (notes18_D _ _) rfl rfl ?_ | refine PCall.mk (awake12_D) rfl rfl ?_) | ((with_reducible refine GCall.mark ?_); first | refine GCall.data (fun _ => h15) rfl rfl ?_ | refine GCall.scal (fun _ => h15) rfl rfl ?_ | refine GCall.data (fun _ => fit23_D S hS) rfl rfl ?_ | refine GCall.scal (fun _ => fit23_D S hS) rfl rfl ?_ | refine GCall.data (fun _ => hp1) rfl rfl ?_ | refine GCall.scal (fun _ => hp1) rfl rfl ?_ | refine GCall.data (fun _ => notes18_D _ _) rfl rfl ?_ | refine GCall.scal (fun _ => notes18_D _ _) rfl rfl ?_ | refine GCall.data (fun _ => awake12_D) rfl rfl ?_ | refine GCall.scal (fun _ => awake12_D) rfl rfl ?_) | ((with_reducible refine MCall.mark ?_); first | refine MCall.data (fun _ => h15) rfl rfl ?_ | refine MCall.plain (PCall.mk (h15) rfl rfl ?_) | refine MCall.data (fun _ => fit23_D S hS) rfl rfl ?_ | refine MCall.plain (PCall.mk (fit23_D S hS) rfl rfl ?_) | refine MCall.data (fun _ => hp1) rfl rfl ?_ | refine MCall.plain (PCall.mk (hp1) rfl rfl ?_) | refine MCall.data (fun _ => notes18_D _ _) rfl rfl ?_ | refine MCall.plain (PCall.mk (notes18_D _ _) rfl rfl ?_) | refine MCall.data (fun _ => awake12_D) rfl rfl ?_ | refine MCall.plain (PCall.mk (awake12_D) rfl rfl ?_)) | ((with_reducible refine Tri.mark ?_); first | refine Tri.loop (mirSt ⟨4, l, u, o⟩ ⟨4, l, u, o⟩ (fitL S)) (MirI (fitL S)) (fun i => (fitL S).length - i.1) (0, []) (by kernel_rfl) (Weak.list [(0, some 0), (1, some 1), (2, none)] [] (by kernel_rfl) ?_ ?_) ?_ ?_ | (refine Tri.movesN [2] [(true, 0), (true, 1), (true, 2), (true, 3), (true, 4), (true, 5), (true, 6), (true, 7), (true, 8), (true, 9), (true, 10), (true, 11), (true, 12), (true, 13), (true, 14), (true, 15), (true, 16), (true, 17), (false, 18), (false, 19), (false, 20)] ?_ (by kernel_rfl) ?_; rfl)) | refine dloadE_map (sm0) ?_ ?_ | refine dcell_ok rfl ?_ | refine AppC.new ?_))
  all_goals first | (with_reducible refine enters_mark ?_; kernel_rfl) | (with_reducible refine boolT_mark ?_; kernel_rfl) | rfl | trivial | assumption | exact Nat.le_of_ble_eq_true rfl | (show entersB _ _ = true; kernel_rfl) | exact DW.same _ rfl | exact DW.ref _ _ _ rfl | exact DW.arr _ _ _ rfl | refine DW.int ?_ | refine dvb ?_ | refine dvi ?_ | exact OW.cells rfl rfl (DWl.same rfl) | exact Nat.zero_le _ | omega | skip
  all_goals repeat' (first | refine OW.cells rfl rfl ?_ | exact DW.nilArr _ rfl | refine DWl.cons ?_ ?_ | exact DWl.nil | exact DW.same _ rfl | exact DW.ref _ _ _ rfl | exact DW.arr _ _ _ rfl | exact DW.sub _ _ _ _ rfl | exact DW.nilLst _ | refine DW.aggl ?_ | refine DW.tupl ?_ | refine DW.clol ?_ ?_ | exact DW.pubG (l := (fitL S).map mirM) rfl rfl rfl rfl rfl (smsRow _) (rowS_eq _))
  all_goals try ((conv => whnf); with_reducible first | refine Round.mark ?_ | refine Tells.mark ?_ | refine Retold.mark ?_)
  all_goals try first | (show (_ : Bool) = _; simp_all; done) | (show (_ : Int) < _; simp at *; omega) | (show (_ : Int) ≤ _; simp at *; omega) | (show (_ : Nat) < _; simp at *; omega) | (show (_ : Nat) ≤ _; simp at *; omega)
  · conv => whnf
    exact rowS_zero
  · exact rs_b1 _
  · rename_i i hi
    exact rs_b2 (miri_len hi (lt_of_test h)) (by omega)
  · rename_i i hi
    exact rs_b3 (miri_len hi (lt_of_test h)) (by omega)
  · rename_i i hi
    have hlt := lt_of_test h
    refine Round.go (fun _ => (i.1 + 1, i.2 ++ [mirM ((fitL S).getD ((i.1 : Nat) : Int).toNat sm0)])) (miri_next hi hlt) (by show (fitL S).length - (i.1 + 1) < (fitL S).length - i.1; omega) (Weak.list [(0, some 0), (1, some 1), (2, some 4)] [] (by kernel_rfl) ?_ ?_)
    · repeat' (first | exact wsucc hlt (by omega) | exact DWl.eq (rfl : alD ⟨4, l, u, o⟩ = alD ⟨4, l, u, o⟩) (alD_all _) | exact DWl.eq (rfl : alD ⟨4, l, u, o⟩ = alD ⟨4, l, u, o⟩) (alD_all _) | exact DWl.eq (miri_push (mir_flowV hlt)) (rowS_all _) | exact pushS i.2 _ | exact DW.same _ rfl | exact DW.ref _ _ _ rfl | exact DW.arr _ _ _ rfl | exact OW.cells rfl rfl (DWl.same rfl) | refine OW.cells rfl rfl ?_ | refine DWl.cons ?_ ?_ | exact DWl.nil | exact DW.nilArr _ rfl | exact DW.nilLst _ | refine DW.clol ?_ ?_ | refine DW.aggl ?_ | refine DW.tupl ?_ | refine DW.int ?_ | refine DW.bool ?_ | refine DW.str ?_ | refine DW.arrE rfl ?_ | ((conv => whnf); first | refine And.intro ?_ ?_ | trivial))
    · repeat' (first | exact wsucc hlt (by omega) | exact DWl.eq (rfl : alD ⟨4, l, u, o⟩ = alD ⟨4, l, u, o⟩) (alD_all _) | exact DWl.eq (rfl : alD ⟨4, l, u, o⟩ = alD ⟨4, l, u, o⟩) (alD_all _) | exact DWl.eq (miri_push (mir_flowV hlt)) (rowS_all _) | exact pushS i.2 _ | exact DW.same _ rfl | exact DW.ref _ _ _ rfl | exact DW.arr _ _ _ rfl | exact OW.cells rfl rfl (DWl.same rfl) | refine OW.cells rfl rfl ?_ | refine DWl.cons ?_ ?_ | exact DWl.nil | exact DW.nilArr _ rfl | exact DW.nilLst _ | refine DW.clol ?_ ?_ | refine DW.aggl ?_ | refine DW.tupl ?_ | refine DW.int ?_ | refine DW.bool ?_ | refine DW.str ?_ | refine DW.arrE rfl ?_ | ((conv => whnf); first | refine And.intro ?_ ?_ | trivial))
  · rename_i i hi
    have hge := ge_of_test h
    have e4 : i.2 = (fitL S).map mirM := by rw [hi.2, List.take_of_length_le hge]
    exact DW.pubG (f := smD) (l := (fitL S).map mirM) (o := ⟨27, 3, rowS i.2⟩) rfl (by rw [← e4]) rfl rfl rfl (smsRow _) (by rw [← e4]; exact rowS_eq _)
  · conv => whnf
    exact Tells.mk (DW.bool (mir_end hfl))
set_option maxRecDepth 20000 in
theorem mirrors7_0 (a : Al) (S : List Sm) (hf : fitA a = false) : DPure Tryd.prog 7 [.agg (alD a), sms S] (bl true) := by
  have h15 := fit15_D a
  rw [hf] at h15
  refine DFun.data (DFun.body Tryd.func7 rfl (by kernel_rfl) ?_)
  repeat' (first | with_reducible rfl | ((conv => whnf); first | refine And.intro ?_ ?_ | (intro h; first | exact Bool.noConfusion h | with_reducible exact h | (refine not_t h ?_; rfl) | (refine not_f h ?_; rfl) | (have ht : true = true := h; clear ht h) | skip) | ((with_reducible refine DWl.mark ?_); repeat' (first | refine DWl.cons ?_ ?_ | exact DWl.nil | exact DW.same _ rfl | exact DW.ref _ _ _ rfl | exact DW.arr _ _ _ rfl | exact DW.sub _ _ _ _ rfl | exact DW.nilLst _ | refine DW.aggl ?_ | refine DW.tupl ?_ | refine DW.clol ?_ ?_ | refine DW.int ?_ | refine DW.bool ?_ | refine DW.str ?_)) | ((with_reducible refine SCall.mark ?_); first | refine SCall.data (h15) rfl rfl ?_ | refine SCall.scal (h15) rfl rfl ?_ | refine SCall.data (awake12_D) rfl rfl ?_ | refine SCall.scal (awake12_D) rfl rfl ?_) | ((with_reducible refine PCall.mark ?_); first | refine PCall.mk (h15) rfl rfl ?_ | refine PCall.mk (awake12_D) rfl rfl ?_) | ((with_reducible refine GCall.mark ?_); first | refine GCall.data (fun _ => h15) rfl rfl ?_ | refine GCall.scal (fun _ => h15) rfl rfl ?_ | refine GCall.data (fun _ => awake12_D) rfl rfl ?_ | refine GCall.scal (fun _ => awake12_D) rfl rfl ?_) | ((with_reducible refine MCall.mark ?_); first | refine MCall.data (fun _ => h15) rfl rfl ?_ | refine MCall.plain (PCall.mk (h15) rfl rfl ?_) | refine MCall.data (fun _ => awake12_D) rfl rfl ?_ | refine MCall.plain (PCall.mk (awake12_D) rfl rfl ?_)) | refine dcell_ok rfl ?_ | refine AppC.new ?_))
  all_goals first | (with_reducible refine enters_mark ?_; kernel_rfl) | (with_reducible refine boolT_mark ?_; kernel_rfl) | rfl | trivial | assumption | exact Nat.le_of_ble_eq_true rfl | (show entersB _ _ = true; kernel_rfl) | exact DW.same _ rfl | exact DW.ref _ _ _ rfl | exact DW.arr _ _ _ rfl | refine DW.int ?_ | refine dvb ?_ | refine dvi ?_ | exact OW.cells rfl rfl (DWl.same rfl) | exact Nat.zero_le _ | omega | skip
  all_goals repeat' (first | refine OW.cells rfl rfl ?_ | exact DW.nilArr _ rfl | refine DWl.cons ?_ ?_ | exact DWl.nil | exact DW.same _ rfl | exact DW.ref _ _ _ rfl | exact DW.arr _ _ _ rfl | exact DW.sub _ _ _ _ rfl | exact DW.nilLst _ | refine DW.aggl ?_ | refine DW.tupl ?_ | refine DW.clol ?_ ?_)
  all_goals try ((conv => whnf); with_reducible first | refine Round.mark ?_ | refine Tells.mark ?_ | refine Retold.mark ?_)
  all_goals try first | (show (_ : Bool) = _; simp_all; done) | (show (_ : Int) < _; simp at *; omega) | (show (_ : Int) ≤ _; simp at *; omega) | (show (_ : Nat) < _; simp at *; omega) | (show (_ : Nat) ≤ _; simp at *; omega)
  conv => whnf
  exact Tells.mk (DW.bool rfl)
theorem mirrors7_D (a : Al) (S : List Sm) (hS : S.length * 24 ≤ 140737488355328) : DPure Tryd.prog 7 [.agg (alD a), sms S] (bl true) := by
  by_cases hf : fitA a = true
  · have h1 := (fit_iff.1 hf).1
    obtain ⟨k, l, u, o⟩ := a
    simp only at h1
    have hk : k = 1 ∨ k = 2 ∨ k = 3 ∨ k = 4 := by omega
    rcases hk with rfl | rfl | rfl | rfl
    · exact mirrors7_1 l u o S hS hf
    · exact mirrors7_2 l u o S hS hf
    · exact mirrors7_3 l u o S hS hf
    · exact mirrors7_4 l u o S hS hf
  · exact mirrors7_0 a S (by simpa using hf)
end Go.Proofs.YtphgcgggbbcjgaaDoor
