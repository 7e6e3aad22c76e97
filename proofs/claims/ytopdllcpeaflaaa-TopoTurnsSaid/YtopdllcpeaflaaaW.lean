/- Chapter 13's examples; the laws of fit lists and of what is told. -/
import Derived.Test.YtopdllcpeaflaaaV
namespace Go.Proofs.Ytopdllcpeaflaaa
open Go.RowKit Go.Dl
attribute [local irreducible] Tri SCall DFun QSem PCall GCall MCall Round Weak dloadE OW DWl Tells IntKind.wrap Retold ESem

def turnsT (l : List Int) (t : Nat) (n : Int) : List Int := if l = [] then [] else firsts l t (min n.toNat 100000)
def nextT (l : List Int) (t : Nat) : Int × Int × Bool := if l = [] then (0, t, false) else (l.getD t 0, ((t + 1) % l.length : Nat), true)
theorem firsts_0 (l : List Int) (t : Nat) {n : Int} (hn : n ≤ 0) : firsts l t (min n.toNat 100000) = [] := by
  rw [show min n.toNat 100000 = 0 by omega]; rfl
theorem turns42_A (l : List Int) (t : Nat) (ht : t < max l.length 1) (hl : l.length ≤ 1000000) (n : Int) : DPure Try.prog 42 [ints l, int1 t, int1 n] (ints (turnsT l t n)) := by
  unfold turnsT
  by_cases he : l = []
  · subst he; exact turns42_0 _ _
  · have hl0 : 0 < l.length := List.length_pos_iff.2 he
    rw [if_neg he]
    by_cases hn : 0 < n
    · exact turns42_D l t (by omega) hl n hn
    · rw [firsts_0 l t (by omega)]; exact turns42_n l _ n (by omega)
theorem turns43_A (l : List Int) (t : Nat) (ht : t < max l.length 1) (hl : l.length ≤ 1000000) (n : Int) : DPure Try.prog 43 [ints l, int1 t, int1 n] (ints (turnsT l t n)) := by
  unfold turnsT
  by_cases he : l = []
  · subst he; exact turns43_0 _ _
  · have hl0 : 0 < l.length := List.length_pos_iff.2 he
    rw [if_neg he]
    by_cases hn : 0 < n
    · exact turns43_D l t (by omega) hl n hn
    · rw [firsts_0 l t (by omega)]; exact turns43_n l _ n (by omega)
theorem next38_A (l : List Int) (t : Nat) (ht : t < max l.length 1) (hl : l.length ≤ 1000000) : DPure Try.prog 38 [ints l, int1 t] (.tup [int1 (nextT l t).1, int1 (nextT l t).2.1, .v (.bool (nextT l t).2.2)]) := by
  unfold nextT
  by_cases he : l = []
  · subst he; exact next0_D _
  · have hl0 : 0 < l.length := List.length_pos_iff.2 he
    rw [if_neg he]; exact next_D l t (by omega) hl
theorem next39_A (l : List Int) (t : Nat) (ht : t < max l.length 1) (hl : l.length ≤ 1000000) : DPure Try.prog 39 [ints l, int1 t] (.tup [int1 (nextT l t).1, int1 (nextT l t).2.1, .v (.bool (nextT l t).2.2)]) := by
  unfold nextT
  by_cases he : l = []
  · subst he; exact next39_0 _
  · have hl0 : 0 < l.length := List.length_pos_iff.2 he
    rw [if_neg he]; exact next39_D l t (by omega) hl
theorem wait40_A (l : List Int) (t : Nat) (ht : t < max l.length 1) (hl : l.length ≤ 1000000) (hnd : l.Nodup) (v : Int) : DPure Try.prog 40 [ints l, int1 t, int1 v] (int1 (waitT l t v)) := by
  by_cases he : l = []
  · subst he; exact wait40_0 _ v
  · have hl0 : 0 < l.length := List.length_pos_iff.2 he
    exact wait40_D l t (by omega) hl hnd v
theorem wait41_A (l : List Int) (t : Nat) (ht : t < max l.length 1) (hl : l.length ≤ 1000000) (v : Int) : DPure Try.prog 41 [ints l, int1 t, int1 v] (int1 (waitT l t v)) := by
  by_cases he : l = []
  · subst he; exact wait41_0 _ v
  · have hl0 : 0 < l.length := List.length_pos_iff.2 he
    exact wait41_D l t (by omega) hl v
theorem same_refl (l : List Int) : DPure Try.prog 33 [ints l, ints l] (.v (.bool true)) := by
  have := same_I l l
  rwa [decide_eq_true (rfl : l = l)] at this

theorem fitT_facts {id : Int} {l : List Int} {turn : Int} (h : fitT id l turn = true) : nodeB id = true ∧ l.length ≤ 6 ∧ 0 ≤ turn ∧ turn < (max l.length 1 : Nat) ∧ (∀ i, i < l.length → okAt id l i = true) ∧ l.Nodup := by
  unfold fitT at h
  simp only [Bool.and_eq_true, decide_eq_true_eq] at h
  obtain ⟨⟨⟨⟨h1, h2⟩, h3⟩, h4⟩, h5⟩ := h
  refine ⟨h1, h2, h3, h4, h5, ?_⟩
  rw [List.nodup_iff_pairwise_ne, List.pairwise_iff_getElem]
  intro i j hi hj hij e
  have := h5 j hj
  have e2 : l.getD j 0 = l[j] := by rw [List.getD_eq_getElem?_getD, List.getElem?_eq_getElem hj]; rfl
  simp only [okAt, e2, Bool.and_eq_true, Bool.not_eq_true', hasB, decide_eq_false_iff_not] at this
  refine this.2 ?_
  rw [← e]
  exact List.mem_iff_getElem.2 ⟨i, by simp; omega, by rw [List.getElem_take]⟩

theorem n1 : DPure Try.prog 38 [ints [5, 1, 7], int1 2] (.tup [int1 7, int1 0, .v (.bool true)]) := next38_A [5, 1, 7] 2 (by decide) (by decide)
theorem u1 : DPure Try.prog 36 [ints [5, 1, 7], int1 2, int1 5] (.tup [ints [1, 7], int1 1, int1 0]) := unlink36_D [5, 1, 7] 2 5 (by decide) (by decide)
theorem l1 : DPure Try.prog 31 [int1 3, ints [5], int1 3] (.tup [ints [5], int1 41]) := link31_D 3 [5] 3 (by decide)
theorem t1 : DPure Try.prog 42 [ints [5, 1, 7], int1 1, int1 4] (ints [1, 7, 5, 1]) := turns42_A [5, 1, 7] 1 (by decide) (by decide) 4
theorem awake29_D : DPure Try.prog 29 [] (.v (.bool true)) := by
  refine DFun.body Try.func29 rfl (by kernel_rfl) ?_
  repeat' (first | with_reducible rfl | ((conv => whnf); first | refine And.intro ?_ ?_ | (intro h; first | exact Bool.noConfusion h | with_reducible exact h | (have ht : true = true := h; clear ht h) | skip) | ((with_reducible refine DWl.mark ?_); repeat' (first | refine DWl.cons ?_ ?_ | exact DWl.nil | exact DW.same _ rfl | exact DW.ref _ _ _ rfl | exact DW.arr _ _ _ rfl | exact DW.sub _ _ _ _ rfl | exact DW.nilLst _ | refine DW.aggl ?_ | refine DW.tupl ?_ | refine DW.clol ?_ ?_ | exact DW.pubM rfl rfl rfl rfl (intsRow _) rfl | exact DW.pubG rfl rfl rfl rfl rfl (intsRow _) rfl | exact DW.pubM rfl (List.length_map _).symm rfl rfl (intsRow _) rfl | exact DW.pubG rfl (List.length_map _).symm rfl rfl rfl (intsRow _) rfl | refine DW.int ?_ | refine DW.bool ?_ | refine DW.str ?_)) | ((with_reducible refine SCall.mark ?_); first | refine SCall.scalT (n1) ?_ rfl ?_ | refine SCall.tell [1] (u1) ?_ rfl rfl ?_ | refine SCall.tell [2] (l1) ?_ rfl rfl ?_ | (refine SCall.scalT (same_refl [1, 7]) ?dwq rfl ?_; case dwq => (repeat' (first | refine DWl.cons ?_ ?_ | exact DWl.nil | exact DW.same _ rfl | exact DW.ref _ _ _ rfl | exact DW.arr _ _ _ rfl | exact DW.sub _ _ _ _ rfl | exact DW.nilLst _ | refine DW.aggl ?_ | refine DW.tupl ?_ | refine DW.clol ?_ ?_ | exact DW.pubM rfl rfl rfl rfl (intsRow _) rfl | exact DW.pubG rfl rfl rfl rfl rfl (intsRow _) rfl | exact DW.pubM rfl (List.length_map _).symm rfl rfl (intsRow _) rfl | exact DW.pubG rfl (List.length_map _).symm rfl rfl rfl (intsRow _) rfl | refine DW.int ?_ | refine DW.bool ?_ | refine DW.str ?_))) | (refine SCall.scalT (same_refl [1, 7, 5, 1]) ?dwq rfl ?_; case dwq => (repeat' (first | refine DWl.cons ?_ ?_ | exact DWl.nil | exact DW.same _ rfl | exact DW.ref _ _ _ rfl | exact DW.arr _ _ _ rfl | exact DW.sub _ _ _ _ rfl | exact DW.nilLst _ | refine DW.aggl ?_ | refine DW.tupl ?_ | refine DW.clol ?_ ?_ | exact DW.pubM rfl rfl rfl rfl (intsRow _) rfl | exact DW.pubG rfl rfl rfl rfl rfl (intsRow _) rfl | exact DW.pubM rfl (List.length_map _).symm rfl rfl (intsRow _) rfl | exact DW.pubG rfl (List.length_map _).symm rfl rfl rfl (intsRow _) rfl | refine DW.int ?_ | refine DW.bool ?_ | refine DW.str ?_)))) | ((with_reducible refine PCall.mark ?_); first | refine PCall.tell (fun _ => n1) ?_ rfl ?_) | ((with_reducible refine GCall.mark ?_); first | refine GCall.scalT (fun _ => n1) ?_ rfl ?_ | (refine GCall.scalT (fun _ => same_refl [1, 7]) ?dwq rfl ?_; case dwq => (intro _; repeat' (first | refine DWl.cons ?_ ?_ | exact DWl.nil | exact DW.same _ rfl | exact DW.ref _ _ _ rfl | exact DW.arr _ _ _ rfl | exact DW.sub _ _ _ _ rfl | exact DW.nilLst _ | refine DW.aggl ?_ | refine DW.tupl ?_ | refine DW.clol ?_ ?_ | exact DW.pubM rfl rfl rfl rfl (intsRow _) rfl | exact DW.pubG rfl rfl rfl rfl rfl (intsRow _) rfl | exact DW.pubM rfl (List.length_map _).symm rfl rfl (intsRow _) rfl | exact DW.pubG rfl (List.length_map _).symm rfl rfl rfl (intsRow _) rfl | refine DW.int ?_ | refine DW.bool ?_ | refine DW.str ?_))) | (refine GCall.scalT (fun _ => same_refl [1, 7, 5, 1]) ?dwq rfl ?_; case dwq => (intro _; repeat' (first | refine DWl.cons ?_ ?_ | exact DWl.nil | exact DW.same _ rfl | exact DW.ref _ _ _ rfl | exact DW.arr _ _ _ rfl | exact DW.sub _ _ _ _ rfl | exact DW.nilLst _ | refine DW.aggl ?_ | refine DW.tupl ?_ | refine DW.clol ?_ ?_ | exact DW.pubM rfl rfl rfl rfl (intsRow _) rfl | exact DW.pubG rfl rfl rfl rfl rfl (intsRow _) rfl | exact DW.pubM rfl (List.length_map _).symm rfl rfl (intsRow _) rfl | exact DW.pubG rfl (List.length_map _).symm rfl rfl rfl (intsRow _) rfl | refine DW.int ?_ | refine DW.bool ?_ | refine DW.str ?_))) | refine GCall.split (fun _ => SCall.tell [4] t1 ?_ rfl rfl ?_) ?_) | ((with_reducible refine MCall.mark ?_); first | refine MCall.plain (PCall.tell (fun _ => n1) ?_ rfl ?_)) | refine dcell_ok rfl ?_ | refine AppC.new ?_))
  all_goals first | (with_reducible refine enters_mark ?_; kernel_rfl) | (with_reducible refine boolT_mark ?_; kernel_rfl) | rfl | trivial | assumption | exact Nat.le_of_ble_eq_true rfl | (show entersB _ _ = true; kernel_rfl) | exact DW.same _ rfl | exact DW.ref _ _ _ rfl | exact DW.arr _ _ _ rfl | refine DW.int ?_ | refine dvb ?_ | refine dvi ?_ | exact OW.cells rfl rfl (DWl.same rfl) | skip
  all_goals repeat' (first | exact OW.cells rfl rfl (DWl.same rfl) | refine OW.cells rfl rfl ?_ | exact DW.nilArr _ rfl | refine DW.clol ?_ ?_ | refine DWl.cons ?_ ?_ | exact DWl.nil | exact DW.same _ rfl | exact DW.ref _ _ _ rfl | exact DW.arr _ _ _ rfl | refine DW.int ?_)
  all_goals try (simp_all; done)
  all_goals try (simp at *; omega)

theorem fits7_D (id : Int) (l : List Int) (turn : Int) : DPure Try.prog 7 [int1 id, ints l, int1 turn] (.v (.bool true)) := by
  refine DFun.body Try.func7 rfl (by kernel_rfl) ?_
  repeat' (first | with_reducible rfl | ((conv => whnf); first | refine And.intro ?_ ?_ | (intro h; first | exact Bool.noConfusion h | with_reducible exact h | (have ht : true = true := h; clear ht h) | skip) | ((with_reducible refine DWl.mark ?_); repeat' (first | refine DWl.cons ?_ ?_ | exact DWl.nil | exact DW.same _ rfl | exact DW.ref _ _ _ rfl | exact DW.arr _ _ _ rfl | exact DW.sub _ _ _ _ rfl | exact DW.nilLst _ | refine DW.aggl ?_ | refine DW.tupl ?_ | refine DW.clol ?_ ?_ | refine DW.int ?_ | refine DW.bool ?_ | refine DW.str ?_)) | ((with_reducible refine SCall.mark ?_); first | refine SCall.data (fit27_D id l turn) rfl rfl ?_ | refine SCall.scal (fit27_D id l turn) rfl rfl ?_ | refine SCall.data (fit28_D id l turn) rfl rfl ?_ | refine SCall.scal (fit28_D id l turn) rfl rfl ?_ | refine SCall.data (awake29_D) rfl rfl ?_ | refine SCall.scal (awake29_D) rfl rfl ?_) | ((with_reducible refine PCall.mark ?_); first | refine PCall.mk (fit27_D id l turn) rfl rfl ?_ | refine PCall.mk (fit28_D id l turn) rfl rfl ?_ | refine PCall.mk (awake29_D) rfl rfl ?_) | ((with_reducible refine GCall.mark ?_); first | refine GCall.data (fun _ => fit27_D id l turn) rfl rfl ?_ | refine GCall.scal (fun _ => fit27_D id l turn) rfl rfl ?_ | refine GCall.data (fun _ => fit28_D id l turn) rfl rfl ?_ | refine GCall.scal (fun _ => fit28_D id l turn) rfl rfl ?_ | refine GCall.data (fun _ => awake29_D) rfl rfl ?_ | refine GCall.scal (fun _ => awake29_D) rfl rfl ?_) | ((with_reducible refine MCall.mark ?_); first | refine MCall.data (fun _ => fit27_D id l turn) rfl rfl ?_ | refine MCall.plain (PCall.mk (fit27_D id l turn) rfl rfl ?_) | refine MCall.data (fun _ => fit28_D id l turn) rfl rfl ?_ | refine MCall.plain (PCall.mk (fit28_D id l turn) rfl rfl ?_) | refine MCall.data (fun _ => awake29_D) rfl rfl ?_ | refine MCall.plain (PCall.mk (awake29_D) rfl rfl ?_)) | refine dcell_ok rfl ?_ | refine AppC.new ?_))
  all_goals first | (with_reducible refine enters_mark ?_; kernel_rfl) | (with_reducible refine boolT_mark ?_; kernel_rfl) | rfl | trivial | assumption | exact Nat.le_of_ble_eq_true rfl | (show entersB _ _ = true; kernel_rfl) | exact DW.same _ rfl | exact DW.ref _ _ _ rfl | exact DW.arr _ _ _ rfl | refine DW.int ?_ | refine dvb ?_ | refine dvi ?_ | exact OW.cells rfl rfl (DWl.same rfl) | skip
  all_goals repeat' (first | exact OW.cells rfl rfl (DWl.same rfl) | refine OW.cells rfl rfl ?_ | exact DW.nilArr _ rfl | refine DW.clol ?_ ?_ | refine DWl.cons ?_ ?_ | exact DWl.nil | exact DW.same _ rfl | exact DW.ref _ _ _ rfl | exact DW.arr _ _ _ rfl | refine DW.int ?_)
  all_goals try (simp_all; done)
  all_goals try (simp at *; omega)

set_option maxRecDepth 100000 in
set_option maxHeartbeats 2000000 in
theorem tells8_D (id : Int) (l : List Int) (turn v n : Int) : DPure Try.prog 8 [int1 id, ints l, int1 turn, int1 v, int1 n] (.v (.bool true)) := by
  have hD := fit28_D id l turn
  cases hfit : fitT id l turn with
  | false =>
    rw [hfit] at hD
    refine DFun.body Try.func8 rfl (by kernel_rfl) ?_
    repeat' (first | with_reducible rfl | ((conv => whnf); first | refine And.intro ?_ ?_ | (intro h; first | exact Bool.noConfusion h | with_reducible exact h | (have ht : true = true := h; clear ht h) | skip) | ((with_reducible refine DWl.mark ?_); repeat' (first | refine DWl.cons ?_ ?_ | exact DWl.nil | exact DW.same _ rfl | exact DW.ref _ _ _ rfl | exact DW.arr _ _ _ rfl | exact DW.sub _ _ _ _ rfl | exact DW.nilLst _ | refine DW.aggl ?_ | refine DW.tupl ?_ | refine DW.clol ?_ ?_ | refine DW.int ?_ | refine DW.bool ?_ | refine DW.str ?_)) | ((with_reducible refine SCall.mark ?_); first | refine SCall.data (hD) rfl rfl ?_ | refine SCall.data (awake29_D) rfl rfl ?_ | refine SCall.scal (awake29_D) rfl rfl ?_) | ((with_reducible refine PCall.mark ?_); first | refine PCall.mk (awake29_D) rfl rfl ?_) | ((with_reducible refine GCall.mark ?_); first | refine GCall.data (fun _ => hD) rfl rfl ?_ | refine GCall.data (fun _ => awake29_D) rfl rfl ?_ | refine GCall.scal (fun _ => awake29_D) rfl rfl ?_) | ((with_reducible refine MCall.mark ?_); first | refine MCall.data (fun _ => hD) rfl rfl ?_ | refine MCall.data (fun _ => awake29_D) rfl rfl ?_ | refine MCall.plain (PCall.mk (awake29_D) rfl rfl ?_)) | refine dcell_ok rfl ?_ | refine AppC.new ?_))
    all_goals first | (with_reducible refine enters_mark ?_; kernel_rfl) | (with_reducible refine boolT_mark ?_; kernel_rfl) | rfl | trivial | assumption | exact Nat.le_of_ble_eq_true rfl | (show entersB _ _ = true; kernel_rfl) | exact DW.same _ rfl | exact DW.ref _ _ _ rfl | exact DW.arr _ _ _ rfl | refine DW.int ?_ | refine dvb ?_ | refine dvi ?_ | exact OW.cells rfl rfl (DWl.same rfl) | skip
    all_goals repeat' (first | exact OW.cells rfl rfl (DWl.same rfl) | refine OW.cells rfl rfl ?_ | exact DW.nilArr _ rfl | refine DW.clol ?_ ?_ | refine DWl.cons ?_ ?_ | exact DWl.nil | exact DW.same _ rfl | exact DW.ref _ _ _ rfl | exact DW.arr _ _ _ rfl | refine DW.int ?_)
    all_goals try (simp_all; done)
    all_goals try (simp at *; omega)
  | true =>
    rw [hfit] at hD
    obtain ⟨f1, f2, f3, f4, f5, hnd⟩ := fitT_facts hfit
    obtain ⟨t, rfl⟩ := Int.eq_ofNat_of_zero_le f3
    have hl : l.length ≤ 1000000 := by omega
    have ht : t < max l.length 1 := by omega
    have htu : (t : Int) < 9223372036854775807 := by omega
    refine DFun.body Try.func8 rfl (by kernel_rfl) ?_
    repeat' (first | with_reducible rfl | ((conv => whnf); first | refine And.intro ?_ ?_ | (intro h; first | exact Bool.noConfusion h | with_reducible exact h | (exfalso; simp at h; done) | (have ht : true = true := h; clear ht h) | skip) | ((with_reducible refine DWl.mark ?_); repeat' (first | refine DWl.cons ?_ ?_ | exact DWl.nil | exact DW.same _ rfl | exact DW.ref _ _ _ rfl | exact DW.arr _ _ _ rfl | exact DW.sub _ _ _ _ rfl | exact DW.nilLst _ | refine DW.aggl ?_ | refine DW.tupl ?_ | refine DW.clol ?_ ?_ | refine DW.int ?_ | refine DW.bool ?_ | refine DW.str ?_)) | ((with_reducible refine SCall.mark ?_); first | refine SCall.data (hD) rfl rfl ?_ | refine SCall.data (awake29_D) rfl rfl ?_ | refine SCall.scal (awake29_D) rfl rfl ?_ | refine SCall.data (copied30_D l hl) rfl rfl ?_ | refine SCall.data (link31_D id l v hl) rfl rfl ?_ | refine SCall.data (link32_D id l v hl) rfl rfl ?_ | refine SCall.data (same_refl _) rfl rfl ?_ | refine SCall.scal (same_refl _) rfl rfl ?_ | refine SCall.data (has_D l v) rfl rfl ?_ | refine SCall.scal (has_D l v) rfl rfl ?_ | refine SCall.data (rhas_D l v) rfl rfl ?_ | refine SCall.scal (rhas_D l v) rfl rfl ?_ | refine SCall.data (unlink36_D l t v hl htu) rfl rfl ?_ | refine SCall.data (unlink37_D l t v hl htu) rfl rfl ?_ | refine SCall.data (next38_A l t ht hl) rfl rfl ?_ | refine SCall.data (next39_A l t ht hl) rfl rfl ?_ | refine SCall.data (wait40_A l t ht hl hnd v) rfl rfl ?_ | refine SCall.scal (wait40_A l t ht hl hnd v) rfl rfl ?_ | refine SCall.data (wait41_A l t ht hl v) rfl rfl ?_ | refine SCall.scal (wait41_A l t ht hl v) rfl rfl ?_ | refine SCall.data (turns42_A l t ht hl _) rfl rfl ?_ | refine SCall.data (turns43_A l t ht hl _) rfl rfl ?_) | ((with_reducible refine PCall.mark ?_); first | refine PCall.mk (awake29_D) rfl rfl ?_ | refine PCall.mk (same_refl _) rfl rfl ?_ | refine PCall.mk (has_D l v) rfl rfl ?_ | refine PCall.mk (rhas_D l v) rfl rfl ?_ | refine PCall.mk (wait40_A l t ht hl hnd v) rfl rfl ?_ | refine PCall.mk (wait41_A l t ht hl v) rfl rfl ?_) | ((with_reducible refine GCall.mark ?_); first | refine GCall.data (fun _ => hD) rfl rfl ?_ | refine GCall.data (fun _ => awake29_D) rfl rfl ?_ | refine GCall.scal (fun _ => awake29_D) rfl rfl ?_ | refine GCall.data (fun _ => copied30_D l hl) rfl rfl ?_ | refine GCall.data (fun _ => link31_D id l v hl) rfl rfl ?_ | refine GCall.data (fun _ => link32_D id l v hl) rfl rfl ?_ | refine GCall.data (fun _ => same_refl _) rfl rfl ?_ | refine GCall.scal (fun _ => same_refl _) rfl rfl ?_ | refine GCall.data (fun _ => has_D l v) rfl rfl ?_ | refine GCall.scal (fun _ => has_D l v) rfl rfl ?_ | refine GCall.data (fun _ => rhas_D l v) rfl rfl ?_ | refine GCall.scal (fun _ => rhas_D l v) rfl rfl ?_ | refine GCall.data (fun _ => unlink36_D l t v hl htu) rfl rfl ?_ | refine GCall.data (fun _ => unlink37_D l t v hl htu) rfl rfl ?_ | refine GCall.data (fun _ => next38_A l t ht hl) rfl rfl ?_ | refine GCall.data (fun _ => next39_A l t ht hl) rfl rfl ?_ | refine GCall.data (fun _ => wait40_A l t ht hl hnd v) rfl rfl ?_ | refine GCall.scal (fun _ => wait40_A l t ht hl hnd v) rfl rfl ?_ | refine GCall.data (fun _ => wait41_A l t ht hl v) rfl rfl ?_ | refine GCall.scal (fun _ => wait41_A l t ht hl v) rfl rfl ?_ | refine GCall.data (fun _ => turns42_A l t ht hl _) rfl rfl ?_ | refine GCall.data (fun _ => turns43_A l t ht hl _) rfl rfl ?_) | ((with_reducible refine MCall.mark ?_); first | refine MCall.data (fun _ => hD) rfl rfl ?_ | refine MCall.data (fun _ => awake29_D) rfl rfl ?_ | refine MCall.plain (PCall.mk (awake29_D) rfl rfl ?_) | refine MCall.data (fun _ => copied30_D l hl) rfl rfl ?_ | refine MCall.data (fun _ => link31_D id l v hl) rfl rfl ?_ | refine MCall.data (fun _ => link32_D id l v hl) rfl rfl ?_ | refine MCall.data (fun _ => same_refl _) rfl rfl ?_ | refine MCall.plain (PCall.mk (same_refl _) rfl rfl ?_) | refine MCall.data (fun _ => has_D l v) rfl rfl ?_ | refine MCall.plain (PCall.mk (has_D l v) rfl rfl ?_) | refine MCall.data (fun _ => rhas_D l v) rfl rfl ?_ | refine MCall.plain (PCall.mk (rhas_D l v) rfl rfl ?_) | refine MCall.data (fun _ => unlink36_D l t v hl htu) rfl rfl ?_ | refine MCall.data (fun _ => unlink37_D l t v hl htu) rfl rfl ?_ | refine MCall.data (fun _ => next38_A l t ht hl) rfl rfl ?_ | refine MCall.data (fun _ => next39_A l t ht hl) rfl rfl ?_ | refine MCall.data (fun _ => wait40_A l t ht hl hnd v) rfl rfl ?_ | refine MCall.plain (PCall.mk (wait40_A l t ht hl hnd v) rfl rfl ?_) | refine MCall.data (fun _ => wait41_A l t ht hl v) rfl rfl ?_ | refine MCall.plain (PCall.mk (wait41_A l t ht hl v) rfl rfl ?_) | refine MCall.data (fun _ => turns42_A l t ht hl _) rfl rfl ?_ | refine MCall.data (fun _ => turns43_A l t ht hl _) rfl rfl ?_) | refine dcell_ok rfl ?_ | refine AppC.new ?_))
    all_goals try first | (with_reducible refine enters_mark ?_; kernel_rfl) | (with_reducible refine boolT_mark ?_; kernel_rfl) | with_reducible exact Nat.le_of_ble_eq_true rfl | (show (_ : Nat) < List.length [_, _]; simp; done) | (show (_ : Nat) < List.length [_, _, _]; simp; done) | (show (_ : Bool) = _; simp_all; done)
    all_goals (conv => whnf)
    all_goals exact dvb rfl
end Go.Proofs.Ytopdllcpeaflaaa
