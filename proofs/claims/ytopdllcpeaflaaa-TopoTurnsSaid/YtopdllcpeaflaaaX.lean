/- The law of turns. -/
import Derived.Test.YtopdllcpeaflaaaW
namespace Go.Proofs.Ytopdllcpeaflaaa
open Go.RowKit Go.Dl
attribute [local irreducible] Tri SCall DFun QSem PCall GCall MCall Round Weak dloadE OW DWl Tells IntKind.wrap Retold ESem

theorem dcell_row {g : Bool} {l : List Int} {off : Nat} {K : DV → Prop} (h : g = true → off < l.length) (hK : K (.v (.int .i64 (l.getD off 0)))) : dcell g (rowC l) off K :=
  dcell_at _ (fun hg => by
    have hl := h hg
    rw [rowC_map, List.getElem?_map, List.getElem?_eq_getElem hl, List.getD_eq_getElem?_getD, List.getElem?_eq_getElem hl]; rfl) hK

theorem turns9_0 (id : Int) (turn : Int) : DPure Try.prog 9 [int1 id, ints [], int1 turn] (.v (.bool true)) := by
  have hD := fit28_D id [] turn
  cases hfit : fitT id [] turn with
  | false =>
    rw [hfit] at hD
    refine DFun.body Try.func9 rfl (by kernel_rfl) ?_
    repeat' (first | with_reducible rfl | ((conv => whnf); first | refine And.intro ?_ ?_ | (intro h; first | exact Bool.noConfusion h | with_reducible exact h | (have ht : true = true := h; clear ht h) | skip) | ((with_reducible refine DWl.mark ?_); repeat' (first | refine DWl.cons ?_ ?_ | exact DWl.nil | exact DW.same _ rfl | exact DW.ref _ _ _ rfl | exact DW.arr _ _ _ rfl | exact DW.sub _ _ _ _ rfl | exact DW.nilLst _ | refine DW.aggl ?_ | refine DW.tupl ?_ | refine DW.clol ?_ ?_ | refine DW.int ?_ | refine DW.bool ?_ | refine DW.str ?_)) | ((with_reducible refine SCall.mark ?_); first | refine SCall.data (hD) rfl rfl ?_ | refine SCall.data (awake29_D) rfl rfl ?_ | refine SCall.scal (awake29_D) rfl rfl ?_) | ((with_reducible refine PCall.mark ?_); first | refine PCall.mk (awake29_D) rfl rfl ?_) | ((with_reducible refine GCall.mark ?_); first | refine GCall.data (fun _ => hD) rfl rfl ?_ | refine GCall.data (fun _ => awake29_D) rfl rfl ?_ | refine GCall.scal (fun _ => awake29_D) rfl rfl ?_) | ((with_reducible refine MCall.mark ?_); first | refine MCall.data (fun _ => hD) rfl rfl ?_ | refine MCall.data (fun _ => awake29_D) rfl rfl ?_ | refine MCall.plain (PCall.mk (awake29_D) rfl rfl ?_)) | refine dcell_ok rfl ?_ | refine AppC.new ?_))
    all_goals try first | (with_reducible refine enters_mark ?_; kernel_rfl) | (with_reducible refine boolT_mark ?_; kernel_rfl) | with_reducible exact Nat.le_of_ble_eq_true rfl | (show Option.isSome (slElem _ _) = true; kernel_rfl) | (show slElem _ _ = some _; kernel_rfl) | (show (_ : Nat) < List.length [_, _]; simp; done) | (show (_ : Nat) < List.length [_, _, _]; simp; done) | (show (_ : Bool) = _; simp_all; done)
    all_goals try ((conv => whnf); first | exact dvb rfl | exact dvi rfl | (refine dvb ?_; simp_all; done) | with_reducible refine Round.mark ?_ | with_reducible refine Tells.mark ?_ | with_reducible refine Retold.mark ?_)
    all_goals try first | (show (_ : Int) < _; first | omega | (simp at *; done) | (simp at *; omega)) | (show (_ : Int) ≤ _; first | omega | (simp at *; done) | (simp at *; omega)) | (show (_ : Nat) < _; first | omega | (simp at *; done) | (simp at *; omega)) | (show (_ : Nat) ≤ _; first | omega | (simp at *; done) | (simp at *; omega))
  | true =>
    rw [hfit] at hD
    obtain ⟨f1, f2, f3, f4, f5, hnd⟩ := fitT_facts hfit
    obtain ⟨t, rfl⟩ := Int.eq_ofNat_of_zero_le f3
    have ht : t < max ([] : List Int).length 1 := by omega
    have h0 : DPure Try.prog 42 [ints [], int1 t, int1 (0 : Int)] (ints []) := turns42_A [] t ht (by simp) 0
    refine DFun.body Try.func9 rfl (by kernel_rfl) ?_
    repeat' (first | with_reducible rfl | ((conv => whnf); first | refine And.intro ?_ ?_ | (intro h; first | exact Bool.noConfusion h | with_reducible exact h | (exfalso; simp at h; done) | (have ht : true = true := h; clear ht h) | skip) | ((with_reducible refine DWl.mark ?_); repeat' (first | refine DWl.cons ?_ ?_ | exact DWl.nil | exact DW.same _ rfl | exact DW.ref _ _ _ rfl | exact DW.arr _ _ _ rfl | exact DW.sub _ _ _ _ rfl | exact DW.nilLst _ | refine DW.aggl ?_ | refine DW.tupl ?_ | refine DW.clol ?_ ?_ | refine DW.int ?_ | refine DW.bool ?_ | refine DW.str ?_)) | ((with_reducible refine SCall.mark ?_); first | refine SCall.data (hD) rfl rfl ?_ | refine SCall.data (awake29_D) rfl rfl ?_ | refine SCall.scal (awake29_D) rfl rfl ?_ | refine SCall.data (same_refl []) rfl rfl ?_ | refine SCall.scal (same_refl []) rfl rfl ?_ | refine SCall.scalT (same_refl []) ?_ rfl ?_) | ((with_reducible refine PCall.mark ?_); first | refine PCall.mk (awake29_D) rfl rfl ?_ | refine PCall.mk (same_refl []) rfl rfl ?_ | refine PCall.tell (fun _ => same_refl []) ?_ rfl ?_) | ((with_reducible refine GCall.mark ?_); first | refine GCall.data (fun _ => hD) rfl rfl ?_ | refine GCall.data (fun _ => awake29_D) rfl rfl ?_ | refine GCall.scal (fun _ => awake29_D) rfl rfl ?_ | refine GCall.data (fun _ => h0) rfl rfl ?_ | refine GCall.data (fun _ => same_refl []) rfl rfl ?_ | refine GCall.scal (fun _ => same_refl []) rfl rfl ?_ | refine GCall.scalT (fun _ => same_refl []) ?_ rfl ?_) | ((with_reducible refine MCall.mark ?_); first | refine MCall.data (fun _ => hD) rfl rfl ?_ | refine MCall.data (fun _ => awake29_D) rfl rfl ?_ | refine MCall.plain (PCall.mk (awake29_D) rfl rfl ?_) | refine MCall.data (fun _ => same_refl []) rfl rfl ?_ | refine MCall.plain (PCall.mk (same_refl []) rfl rfl ?_) | refine MCall.plain (PCall.tell (fun _ => same_refl []) ?_ rfl ?_)) | ((with_reducible refine Tri.mark ?_); first | refine Tri.rounds 1 (by kernel_rfl) ?_) | refine dcell_ok rfl ?_ | refine AppC.new ?_))
    all_goals try first | (with_reducible refine enters_mark ?_; kernel_rfl) | (with_reducible refine boolT_mark ?_; kernel_rfl) | with_reducible exact Nat.le_of_ble_eq_true rfl | (show Option.isSome (slElem _ _) = true; kernel_rfl) | (show slElem _ _ = some _; kernel_rfl) | (show (_ : Nat) < List.length [_, _]; simp; done) | (show (_ : Nat) < List.length [_, _, _]; simp; done) | (show (_ : Bool) = _; simp_all; done)
    all_goals try ((conv => whnf); first | exact dvb rfl | exact dvi rfl | (refine dvb ?_; simp_all; done) | with_reducible refine Round.mark ?_ | with_reducible refine Tells.mark ?_ | with_reducible refine Retold.mark ?_)
    all_goals try first | (show (_ : Int) < _; first | omega | (simp at *; done) | (simp at *; omega)) | (show (_ : Int) ≤ _; first | omega | (simp at *; done) | (simp at *; omega)) | (show (_ : Nat) < _; first | omega | (simp at *; done) | (simp at *; omega)) | (show (_ : Nat) ≤ _; first | omega | (simp at *; done) | (simp at *; omega))

theorem firsts_get {l : List Int} {t k j : Nat} (hj : j < k) : (firsts l t k).getD j 0 = l.getD ((t + j) % l.length) 0 := by
  unfold firsts
  rw [List.getD_eq_getElem?_getD, List.getElem?_map, List.getElem?_range hj]
  rfl
def gotSt (l : List Int) (t k : Nat) : St := ⟨0, tmOf [(1, ints l), (2, int1 t), (7, .arr 0 k), (8, int1 ((t + k) % l.length : Nat)), (26, int1 l.length), (27, int1 k)], .of [(0, ⟨3, 1, rowC (firsts l t k)⟩)] 1⟩
def outSt (l : List Int) (t k m : Nat) : St := ⟨0, tmOf [(1, ints l), (2, int1 t), (7, .arr 0 k), (8, int1 ((t + k) % l.length : Nat)), (44, ints l), (45, int1 l.length), (46, int1 m)], .of [(0, ⟨3, 1, rowC (firsts l t k)⟩)] 1⟩
def nJ (l : List Int) (t : Nat) (v : Int) (j : Nat) : Int := if waitT l t v ≤ j then 1 else 0
def pJ (l : List Int) (t : Nat) (v : Int) (j : Nat) : Int := if waitT l t v ≤ j then waitT l t v else 0
def innSt (l : List Int) (t k m j : Nat) : St := ⟨0, tmOf [(1, ints l), (2, int1 t), (7, .arr 0 k), (8, int1 ((t + k) % l.length : Nat)), (44, ints l), (45, int1 l.length), (46, int1 m), (13, int1 (l.getD m 0)), (14, int1 (nJ l t (l.getD m 0) j)), (15, int1 (pJ l t (l.getD m 0) j)), (50, .arr 0 k), (51, int1 k), (52, int1 j)], .of [(0, ⟨3, 1, rowC (firsts l t k)⟩)] 1⟩
set_option maxRecDepth 100000 in
set_option maxHeartbeats 2000000 in
theorem turns9_D (id : Int) (l : List Int) (turn : Int) (hne : l ≠ []) : DPure Try.prog 9 [int1 id, ints l, int1 turn] (.v (.bool true)) := by
  have hD := fit28_D id l turn
  cases hfit : fitT id l turn with
  | false =>
    rw [hfit] at hD
    refine DFun.body Try.func9 rfl (by kernel_rfl) ?_
    repeat' (first | with_reducible rfl | ((conv => whnf); first | refine And.intro ?_ ?_ | (intro h; first | exact Bool.noConfusion h | with_reducible exact h | (have ht : true = true := h; clear ht h) | skip) | ((with_reducible refine DWl.mark ?_); repeat' (first | refine DWl.cons ?_ ?_ | exact DWl.nil | exact DW.same _ rfl | exact DW.ref _ _ _ rfl | exact DW.arr _ _ _ rfl | exact DW.sub _ _ _ _ rfl | exact DW.nilLst _ | refine DW.aggl ?_ | refine DW.tupl ?_ | refine DW.clol ?_ ?_ | refine DW.int ?_ | refine DW.bool ?_ | refine DW.str ?_)) | ((with_reducible refine SCall.mark ?_); first | refine SCall.data (hD) rfl rfl ?_ | refine SCall.data (awake29_D) rfl rfl ?_ | refine SCall.scal (awake29_D) rfl rfl ?_) | ((with_reducible refine PCall.mark ?_); first | refine PCall.mk (awake29_D) rfl rfl ?_) | ((with_reducible refine GCall.mark ?_); first | refine GCall.data (fun _ => hD) rfl rfl ?_ | refine GCall.data (fun _ => awake29_D) rfl rfl ?_ | refine GCall.scal (fun _ => awake29_D) rfl rfl ?_) | ((with_reducible refine MCall.mark ?_); first | refine MCall.data (fun _ => hD) rfl rfl ?_ | refine MCall.data (fun _ => awake29_D) rfl rfl ?_ | refine MCall.plain (PCall.mk (awake29_D) rfl rfl ?_)) | refine dcell_ok rfl ?_ | refine AppC.new ?_))
    all_goals try first | (with_reducible refine enters_mark ?_; kernel_rfl) | (with_reducible refine boolT_mark ?_; kernel_rfl) | with_reducible exact Nat.le_of_ble_eq_true rfl | (show Option.isSome (slElem _ _) = true; kernel_rfl) | (show slElem _ _ = some _; kernel_rfl) | (show (_ : Nat) < List.length [_, _]; simp; done) | (show (_ : Nat) < List.length [_, _, _]; simp; done) | (show (_ : Bool) = _; simp_all; done)
    all_goals try ((conv => whnf); first | exact dvb rfl | exact dvi rfl | (refine dvb ?_; simp_all; done) | with_reducible refine Round.mark ?_ | with_reducible refine Tells.mark ?_ | with_reducible refine Retold.mark ?_)
    all_goals try first | (show (_ : Int) < _; first | omega | (simp at *; done) | (simp at *; omega)) | (show (_ : Int) ≤ _; first | omega | (simp at *; done) | (simp at *; omega)) | (show (_ : Nat) < _; first | omega | (simp at *; done) | (simp at *; omega)) | (show (_ : Nat) ≤ _; first | omega | (simp at *; done) | (simp at *; omega))
  | true =>
    rw [hfit] at hD
    obtain ⟨f1, f2, f3, f4, f5, hnd⟩ := fitT_facts hfit
    obtain ⟨t, rfl⟩ := Int.eq_ofNat_of_zero_le f3
    have hpos : 0 < l.length := List.length_pos_iff.2 hne
    have hl : l.length ≤ 1000000 := by omega
    have htl : t < l.length := by omega
    have ht : t < max l.length 1 := by omega
    have hN : ∀ k, DPure Try.prog 38 [ints l, int1 ((t + k) % l.length : Nat)] (.tup [int1 (l.getD ((t + k) % l.length) 0), int1 (((t + k) % l.length + 1) % l.length : Nat), .v (.bool true)]) := fun k => next_D l _ (Nat.mod_lt _ hpos) hl
    have hT : (((t + 0) % l.length : Nat) : Int) = t := by rw [Nat.add_zero, Nat.mod_eq_of_lt htl]
    have hM : (((l.map intD).length : Nat) : Int) = l.length := by simp
    refine DFun.body Try.func9 rfl (by kernel_rfl) ?_
    repeat' (first | with_reducible rfl | ((conv => whnf); first | refine And.intro ?_ ?_ | (intro h; first | exact Bool.noConfusion h | with_reducible exact h | (exfalso; simp at h; done) | (have ht : true = true := h; clear ht h) | skip) | ((with_reducible refine DWl.mark ?_); repeat' (first | refine DWl.cons ?_ ?_ | exact DWl.nil | exact DW.same _ rfl | exact DW.ref _ _ _ rfl | exact DW.arr _ _ _ rfl | exact DW.sub _ _ _ _ rfl | exact DW.nilLst _ | refine DW.aggl ?_ | refine DW.tupl ?_ | refine DW.clol ?_ ?_ | refine DW.int ?_ | refine DW.bool ?_ | refine DW.str ?_)) | ((with_reducible refine SCall.mark ?_); first | refine SCall.data (hD) rfl rfl ?_ | refine SCall.data (awake29_D) rfl rfl ?_ | refine SCall.scal (awake29_D) rfl rfl ?_) | ((with_reducible refine PCall.mark ?_); first | refine PCall.mk (awake29_D) rfl rfl ?_) | ((with_reducible refine GCall.mark ?_); first | refine GCall.data (fun _ => hD) rfl rfl ?_ | refine GCall.data (fun _ => awake29_D) rfl rfl ?_ | refine GCall.scal (fun _ => awake29_D) rfl rfl ?_) | ((with_reducible refine MCall.mark ?_); first | refine MCall.data (fun _ => hD) rfl rfl ?_ | refine MCall.data (fun _ => awake29_D) rfl rfl ?_ | refine MCall.plain (PCall.mk (awake29_D) rfl rfl ?_)) | refine dcell_ok rfl ?_ | refine AppC.new ?_))
    all_goals try first | (with_reducible refine enters_mark ?_; kernel_rfl) | (with_reducible refine boolT_mark ?_; kernel_rfl) | with_reducible exact Nat.le_of_ble_eq_true rfl | (show Option.isSome (slElem _ _) = true; kernel_rfl) | (show slElem _ _ = some _; kernel_rfl) | (show (_ : Nat) < List.length [_, _]; simp; done) | (show (_ : Nat) < List.length [_, _, _]; simp; done) | (show (_ : Bool) = _; simp_all; done)
    all_goals try ((conv => whnf); first | exact dvb rfl | exact dvi rfl | (refine dvb ?_; simp_all; done) | with_reducible refine Round.mark ?_ | with_reducible refine Tells.mark ?_ | with_reducible refine Retold.mark ?_)
    all_goals try first | (show (_ : Int) < _; first | omega | (simp at *; done) | (simp at *; omega)) | (show (_ : Int) ≤ _; first | omega | (simp at *; done) | (simp at *; omega)) | (show (_ : Nat) < _; first | omega | (simp at *; done) | (simp at *; omega)) | (show (_ : Nat) ≤ _; first | omega | (simp at *; done) | (simp at *; omega))
    conv => whnf
    refine Tri.loop (gotSt l t) (· ≤ l.length) (fun k => l.length - k) 0 (by kernel_rfl) (Weak.list [(0, none)] [] (by kernel_rfl) ?_ ?_) (Nat.zero_le _) ?_
    · repeat' (first | exact hT.symm | exact hM | exact DW.same _ rfl | exact DW.ref _ _ _ rfl | exact DW.arr _ _ _ rfl | exact OW.cells rfl rfl (DWl.same rfl) | refine OW.cells rfl rfl ?_ | refine DWl.cons ?_ ?_ | exact DWl.nil | exact DW.nilArr _ rfl | exact DW.nilLst _ | refine DW.clol ?_ ?_ | refine DW.aggl ?_ | refine DW.tupl ?_ | refine DW.int ?_ | refine DW.bool ?_ | refine DW.str ?_ | refine DW.arrE rfl ?_ | ((conv => whnf); first | refine And.intro ?_ ?_ | trivial))
    · repeat' (first | exact hT.symm | exact hM | exact DW.same _ rfl | exact DW.ref _ _ _ rfl | exact DW.arr _ _ _ rfl | exact OW.cells rfl rfl (DWl.same rfl) | refine OW.cells rfl rfl ?_ | refine DWl.cons ?_ ?_ | exact DWl.nil | exact DW.nilArr _ rfl | exact DW.nilLst _ | refine DW.clol ?_ ?_ | refine DW.aggl ?_ | refine DW.tupl ?_ | refine DW.int ?_ | refine DW.bool ?_ | refine DW.str ?_ | refine DW.arrE rfl ?_ | ((conv => whnf); first | refine And.intro ?_ ?_ | trivial))
    intro k hk
    repeat' (first | with_reducible rfl | ((conv => whnf); first | refine And.intro ?_ ?_ | (intro h; first | exact Bool.noConfusion h | with_reducible exact h | (exfalso; simp at h; done) | (have ht : true = true := h; clear ht h) | skip) | ((with_reducible refine DWl.mark ?_); repeat' (first | refine DWl.cons ?_ ?_ | exact DWl.nil | exact DW.same _ rfl | exact DW.ref _ _ _ rfl | exact DW.arr _ _ _ rfl | exact DW.sub _ _ _ _ rfl | exact DW.nilLst _ | refine DW.aggl ?_ | refine DW.tupl ?_ | refine DW.clol ?_ ?_ | refine DW.int ?_ | refine DW.bool ?_ | refine DW.str ?_)) | ((with_reducible refine SCall.mark ?_); first | refine SCall.data (hN k) rfl rfl ?_) | ((with_reducible refine GCall.mark ?_); first | refine GCall.data (fun _ => hN k) rfl rfl ?_) | ((with_reducible refine MCall.mark ?_); first | refine MCall.data (fun _ => hN k) rfl rfl ?_) | refine dcell_ok rfl ?_ | refine AppC.new ?_))
    all_goals first | (with_reducible refine enters_mark ?_; kernel_rfl) | (with_reducible refine boolT_mark ?_; kernel_rfl) | rfl | trivial | assumption | exact Nat.le_of_ble_eq_true rfl | (show entersB _ _ = true; kernel_rfl) | exact DW.same _ rfl | exact DW.ref _ _ _ rfl | exact DW.arr _ _ _ rfl | refine DW.int ?_ | refine dvb ?_ | refine dvi ?_ | exact OW.cells rfl rfl (DWl.same rfl) | exact Nat.zero_le _ | omega | skip
    all_goals repeat' (first | refine OW.cells rfl rfl ?_ | exact DW.nilArr _ rfl | refine DWl.cons ?_ ?_ | exact DWl.nil | exact DW.same _ rfl | exact DW.ref _ _ _ rfl | exact DW.arr _ _ _ rfl | exact DW.sub _ _ _ _ rfl | exact DW.nilLst _ | refine DW.aggl ?_ | refine DW.tupl ?_ | refine DW.clol ?_ ?_)
    all_goals try ((conv => whnf); with_reducible first | refine Round.mark ?_ | refine Tells.mark ?_ | refine Retold.mark ?_)
    all_goals try first | (show (_ : Bool) = _; simp_all; done) | (show (_ : Int) < _; simp at *; omega) | (show (_ : Int) ≤ _; simp at *; omega) | (show (_ : Nat) < _; simp at *; omega) | (show (_ : Nat) ≤ _; simp at *; omega)
    · show k * 1 ≤ (rowC (firsts l t k)).length
      rw [rowC_len, firsts_len]; omega
    · simp only [maxLen]; omega
    · rename_i e0
      have e0 : k < l.length := by simpa using e0
      have hw : IntKind.i64.wrap ((k : Int) + 1) = ((k + 1 : Nat) : Int) := wrapI (by omega) (by omega)
      have ha : ((((t + k) % l.length + 1) % l.length : Nat) : Int) = ((t + (k + 1)) % l.length : Nat) := by rw [Nat.mod_add_mod, Nat.add_assoc]
      refine Round.go (· + 1) e0 (by show _ - (k + 1) < _ - k; omega) (Weak.list [(0, some 2)] [] (by kernel_rfl) ?_ ?_)
      · repeat' (first | exact hw | exact ha | exact OW.same rfl rfl (firsts_row l t k htl) (rowC_all _) | exact DW.same _ rfl | exact DW.ref _ _ _ rfl | exact DW.arr _ _ _ rfl | exact OW.cells rfl rfl (DWl.same rfl) | refine OW.cells rfl rfl ?_ | refine DWl.cons ?_ ?_ | exact DWl.nil | exact DW.nilArr _ rfl | exact DW.nilLst _ | refine DW.clol ?_ ?_ | refine DW.aggl ?_ | refine DW.tupl ?_ | refine DW.int ?_ | refine DW.bool ?_ | refine DW.str ?_ | refine DW.arrE rfl ?_ | ((conv => whnf); first | refine And.intro ?_ ?_ | trivial))
      · repeat' (first | exact hw | exact ha | exact OW.same rfl rfl (firsts_row l t k htl) (rowC_all _) | exact DW.same _ rfl | exact DW.ref _ _ _ rfl | exact DW.arr _ _ _ rfl | exact OW.cells rfl rfl (DWl.same rfl) | refine OW.cells rfl rfl ?_ | refine DWl.cons ?_ ?_ | exact DWl.nil | exact DW.nilArr _ rfl | exact DW.nilLst _ | refine DW.clol ?_ ?_ | refine DW.aggl ?_ | refine DW.tupl ?_ | refine DW.int ?_ | refine DW.bool ?_ | refine DW.str ?_ | refine DW.arrE rfl ?_ | ((conv => whnf); first | refine And.intro ?_ ?_ | trivial))
    have hkl : k = l.length := by simp at h; omega
    have hTa := turns42_A l t ht hl (((l.map intD).length : Nat) : Int)
    have hTq : turnsT l t (((l.map intD).length : Nat) : Int) = firsts l t k := by
      unfold turnsT
      rw [if_neg hne, hM, hkl]
      congr 1; omega
    rw [hTq] at hTa
    conv => whnf
    refine Tri.loop (outSt l t k) (· ≤ l.length) (fun m => l.length - m) 0 (by kernel_rfl) (Weak.list [(0, some 0)] [] (by kernel_rfl) ?_ ?_) (Nat.zero_le _) ?_
    · repeat' (first | exact hM | exact OW.same rfl rfl rfl (rowC_all _) | exact DW.same _ rfl | exact DW.ref _ _ _ rfl | exact DW.arr _ _ _ rfl | exact OW.cells rfl rfl (DWl.same rfl) | refine OW.cells rfl rfl ?_ | refine DWl.cons ?_ ?_ | exact DWl.nil | exact DW.nilArr _ rfl | exact DW.nilLst _ | refine DW.clol ?_ ?_ | refine DW.aggl ?_ | refine DW.tupl ?_ | refine DW.int ?_ | refine DW.bool ?_ | refine DW.str ?_ | refine DW.arrE rfl ?_ | ((conv => whnf); first | refine And.intro ?_ ?_ | trivial))
    · repeat' (first | exact hM | exact OW.same rfl rfl rfl (rowC_all _) | exact DW.same _ rfl | exact DW.ref _ _ _ rfl | exact DW.arr _ _ _ rfl | exact OW.cells rfl rfl (DWl.same rfl) | refine OW.cells rfl rfl ?_ | refine DWl.cons ?_ ?_ | exact DWl.nil | exact DW.nilArr _ rfl | exact DW.nilLst _ | refine DW.clol ?_ ?_ | refine DW.aggl ?_ | refine DW.tupl ?_ | refine DW.int ?_ | refine DW.bool ?_ | refine DW.str ?_ | refine DW.arrE rfl ?_ | ((conv => whnf); first | refine And.intro ?_ ?_ | trivial))
    intro m hm
    repeat' (first | with_reducible rfl | ((conv => whnf); first | refine And.intro ?_ ?_ | (intro h; first | exact Bool.noConfusion h | with_reducible exact h | (exfalso; simp at h; done) | (have ht : true = true := h; clear ht h) | skip) | ((with_reducible refine DWl.mark ?_); repeat' (first | refine DWl.cons ?_ ?_ | exact DWl.nil | exact DW.same _ rfl | exact DW.ref _ _ _ rfl | exact DW.arr _ _ _ rfl | exact DW.sub _ _ _ _ rfl | exact DW.nilLst _ | refine DW.aggl ?_ | refine DW.tupl ?_ | refine DW.clol ?_ ?_ | refine DW.int ?_ | refine DW.bool ?_ | refine DW.str ?_)) | refine dloadE_map (0) ?_ ?_ | refine dcell_ok rfl ?_ | refine AppC.new ?_))
    all_goals first | (with_reducible refine enters_mark ?_; kernel_rfl) | (with_reducible refine boolT_mark ?_; kernel_rfl) | rfl | trivial | assumption | exact Nat.le_of_ble_eq_true rfl | (show entersB _ _ = true; kernel_rfl) | exact DW.same _ rfl | exact DW.ref _ _ _ rfl | exact DW.arr _ _ _ rfl | refine DW.int ?_ | refine dvb ?_ | refine dvi ?_ | exact OW.cells rfl rfl (DWl.same rfl) | exact Nat.zero_le _ | omega | skip
    all_goals repeat' (first | refine OW.cells rfl rfl ?_ | exact DW.nilArr _ rfl | refine DWl.cons ?_ ?_ | exact DWl.nil | exact DW.same _ rfl | exact DW.ref _ _ _ rfl | exact DW.arr _ _ _ rfl | exact DW.sub _ _ _ _ rfl | exact DW.nilLst _ | refine DW.aggl ?_ | refine DW.tupl ?_ | refine DW.clol ?_ ?_)
    all_goals try ((conv => whnf); with_reducible first | refine Round.mark ?_ | refine Tells.mark ?_ | refine Retold.mark ?_)
    all_goals try first | (show (_ : Bool) = _; simp_all; done) | (show (_ : Int) < _; simp at *; omega) | (show (_ : Int) ≤ _; simp at *; omega) | (show (_ : Nat) < _; simp at *; omega) | (show (_ : Nat) ≤ _; simp at *; omega)
    · have hml : m < l.length := by simpa using h
      have hv : l.getD m 0 ∈ l := by rw [List.getD_eq_getElem?_getD, List.getElem?_eq_getElem hml]; exact List.getElem_mem hml
      have hw1 : 0 < waitT l t (l.getD m 0) := by unfold waitT; rw [if_pos hv]; omega
      have hn0 : nJ l t (l.getD m 0) 0 = 0 := by unfold nJ; rw [if_neg (by omega)]
      have hp0 : pJ l t (l.getD m 0) 0 = 0 := by unfold pJ; rw [if_neg (by omega)]
      have hw2 : waitT l t (l.getD m 0) ≤ l.length := by
        unfold waitT; rw [if_pos hv]; have := Nat.mod_lt (l.idxOf (l.getD m 0) + (l.length - t)) hpos; omega
      have hW := wait40_A l t ht hl hnd (l.getD m 0)
      conv => whnf
      refine Tri.loop (innSt l t k m) (· ≤ k) (fun j => k - j) 0 (by kernel_rfl) (Weak.list [(0, some 0)] [] (by kernel_rfl) ?_ ?_) (Nat.zero_le _) ?_
      · repeat' (first | exact hn0.symm | exact hp0.symm | exact OW.same rfl rfl rfl (rowC_all _) | exact DW.same _ rfl | exact DW.ref _ _ _ rfl | exact DW.arr _ _ _ rfl | exact OW.cells rfl rfl (DWl.same rfl) | refine OW.cells rfl rfl ?_ | refine DWl.cons ?_ ?_ | exact DWl.nil | exact DW.nilArr _ rfl | exact DW.nilLst _ | refine DW.clol ?_ ?_ | refine DW.aggl ?_ | refine DW.tupl ?_ | refine DW.int ?_ | refine DW.bool ?_ | refine DW.str ?_ | refine DW.arrE rfl ?_ | ((conv => whnf); first | refine And.intro ?_ ?_ | trivial))
      · repeat' (first | exact hn0.symm | exact hp0.symm | exact OW.same rfl rfl rfl (rowC_all _) | exact DW.same _ rfl | exact DW.ref _ _ _ rfl | exact DW.arr _ _ _ rfl | exact OW.cells rfl rfl (DWl.same rfl) | refine OW.cells rfl rfl ?_ | refine DWl.cons ?_ ?_ | exact DWl.nil | exact DW.nilArr _ rfl | exact DW.nilLst _ | refine DW.clol ?_ ?_ | refine DW.aggl ?_ | refine DW.tupl ?_ | refine DW.int ?_ | refine DW.bool ?_ | refine DW.str ?_ | refine DW.arrE rfl ?_ | ((conv => whnf); first | refine And.intro ?_ ?_ | trivial))
      intro j hj
      repeat' (first | with_reducible rfl | ((conv => whnf); first | refine And.intro ?_ ?_ | (intro h; first | exact Bool.noConfusion h | with_reducible exact h | (exfalso; simp at h; done) | (have ht : true = true := h; clear ht h) | skip) | ((with_reducible refine DWl.mark ?_); repeat' (first | refine DWl.cons ?_ ?_ | exact DWl.nil | exact DW.same _ rfl | exact DW.ref _ _ _ rfl | exact DW.arr _ _ _ rfl | exact DW.sub _ _ _ _ rfl | exact DW.nilLst _ | refine DW.aggl ?_ | refine DW.tupl ?_ | refine DW.clol ?_ ?_ | refine DW.int ?_ | refine DW.bool ?_ | refine DW.str ?_)) | ((with_reducible refine SCall.mark ?_); first | refine SCall.data (hW) rfl rfl ?_ | refine SCall.scal (hW) rfl rfl ?_) | ((with_reducible refine PCall.mark ?_); first | refine PCall.mk (hW) rfl rfl ?_) | ((with_reducible refine GCall.mark ?_); first | refine GCall.data (fun _ => hW) rfl rfl ?_ | refine GCall.scal (fun _ => hW) rfl rfl ?_) | ((with_reducible refine MCall.mark ?_); first | refine MCall.data (fun _ => hW) rfl rfl ?_ | refine MCall.plain (PCall.mk (hW) rfl rfl ?_)) | refine darr_go ?_ ?_ | refine dcell_row ?_ ?_ | refine dcell_ok rfl ?_ | refine AppC.new ?_ | refine dcell_int ?_ ?_))
      all_goals first | (with_reducible refine enters_mark ?_; kernel_rfl) | (with_reducible refine boolT_mark ?_; kernel_rfl) | rfl | trivial | assumption | exact Nat.le_of_ble_eq_true rfl | (show entersB _ _ = true; kernel_rfl) | exact DW.same _ rfl | exact DW.ref _ _ _ rfl | exact DW.arr _ _ _ rfl | refine DW.int ?_ | refine dvb ?_ | refine dvi ?_ | exact OW.cells rfl rfl (DWl.same rfl) | exact Nat.zero_le _ | omega | skip
      all_goals repeat' (first | refine OW.cells rfl rfl ?_ | exact DW.nilArr _ rfl | refine DWl.cons ?_ ?_ | exact DWl.nil | exact DW.same _ rfl | exact DW.ref _ _ _ rfl | exact DW.arr _ _ _ rfl | exact DW.sub _ _ _ _ rfl | exact DW.nilLst _ | refine DW.aggl ?_ | refine DW.tupl ?_ | refine DW.clol ?_ ?_)
      all_goals try ((conv => whnf); with_reducible first | refine Round.mark ?_ | refine Tells.mark ?_ | refine Retold.mark ?_)
      all_goals try first | (show (_ : Bool) = _; simp_all; done) | (show (_ : Int) < _; simp at *; omega) | (show (_ : Int) ≤ _; simp at *; omega) | (show (_ : Nat) < _; simp at *; omega) | (show (_ : Nat) ≤ _; simp at *; omega)
      · show (j : Int).toNat * 1 < _
        rw [firsts_len]; simp at h; omega
      · rename_i e0
        have hjk : j < k := by simpa using e0
        have e1 : (firsts l t k).getD ((j : Int).toNat * 1) 0 = l.getD m 0 := eq_of_beq h
        rw [show (j : Int).toNat * 1 = j by omega, firsts_get hjk] at e1
        have e2 := wait_at hnd htl (show j < l.length by omega) e1
        have hn : IntKind.i64.wrap (nJ l t (l.getD m 0) j + 1) = nJ l t (l.getD m 0) (j + 1) := by
          unfold nJ; rw [e2, if_neg (by omega), if_pos (by omega)]; exact wrapI (by omega) (by omega)
        have hw : IntKind.i64.wrap ((j : Int) + 1) = ((j + 1 : Nat) : Int) := wrapI (by omega) (by omega)
        have hp : IntKind.i64.wrap ((j : Int) + 1) = pJ l t (l.getD m 0) (j + 1) := by
          unfold pJ; rw [e2, if_pos (by omega)]; exact hw
        refine Round.go (· + 1) hjk (by show _ - (j + 1) < _ - j; omega) (Weak.list [(0, some 0)] [] (by kernel_rfl) ?_ ?_)
        · repeat' (first | exact hn | exact hp | exact hw | exact OW.same rfl rfl rfl (rowC_all _) | exact DW.same _ rfl | exact DW.ref _ _ _ rfl | exact DW.arr _ _ _ rfl | exact OW.cells rfl rfl (DWl.same rfl) | refine OW.cells rfl rfl ?_ | refine DWl.cons ?_ ?_ | exact DWl.nil | exact DW.nilArr _ rfl | exact DW.nilLst _ | refine DW.clol ?_ ?_ | refine DW.aggl ?_ | refine DW.tupl ?_ | refine DW.int ?_ | refine DW.bool ?_ | refine DW.str ?_ | refine DW.arrE rfl ?_ | ((conv => whnf); first | refine And.intro ?_ ?_ | trivial))
        · repeat' (first | exact hn | exact hp | exact hw | exact OW.same rfl rfl rfl (rowC_all _) | exact DW.same _ rfl | exact DW.ref _ _ _ rfl | exact DW.arr _ _ _ rfl | exact OW.cells rfl rfl (DWl.same rfl) | refine OW.cells rfl rfl ?_ | refine DWl.cons ?_ ?_ | exact DWl.nil | exact DW.nilArr _ rfl | exact DW.nilLst _ | refine DW.clol ?_ ?_ | refine DW.aggl ?_ | refine DW.tupl ?_ | refine DW.int ?_ | refine DW.bool ?_ | refine DW.str ?_ | refine DW.arrE rfl ?_ | ((conv => whnf); first | refine And.intro ?_ ?_ | trivial))
      · rename_i e0
        have hjk : j < k := by simpa using e0
        have e1 : (firsts l t k).getD ((j : Int).toNat * 1) 0 ≠ l.getD m 0 := ne_of_beq_false h
        rw [show (j : Int).toNat * 1 = j by omega, firsts_get hjk] at e1
        have e2 : waitT l t (l.getD m 0) ≠ j + 1 := fun e => by
          obtain ⟨i, i1, i2⟩ := wait_ex htl hv
          have i3 := wait_at hnd htl i1 i2
          have i4 : i = j := by omega
          subst i4
          exact e1 i2
        have hn : nJ l t (l.getD m 0) j = nJ l t (l.getD m 0) (j + 1) := by
          unfold nJ; split <;> split <;> omega
        have hp : pJ l t (l.getD m 0) j = pJ l t (l.getD m 0) (j + 1) := by
          unfold pJ; split <;> split <;> omega
        have hw : IntKind.i64.wrap ((j : Int) + 1) = ((j + 1 : Nat) : Int) := wrapI (by omega) (by omega)
        refine Round.go (· + 1) hjk (by show _ - (j + 1) < _ - j; omega) (Weak.list [(0, some 0)] [] (by kernel_rfl) ?_ ?_)
        · repeat' (first | exact hn | exact hp | exact hw | exact OW.same rfl rfl rfl (rowC_all _) | exact DW.same _ rfl | exact DW.ref _ _ _ rfl | exact DW.arr _ _ _ rfl | exact OW.cells rfl rfl (DWl.same rfl) | refine OW.cells rfl rfl ?_ | refine DWl.cons ?_ ?_ | exact DWl.nil | exact DW.nilArr _ rfl | exact DW.nilLst _ | refine DW.clol ?_ ?_ | refine DW.aggl ?_ | refine DW.tupl ?_ | refine DW.int ?_ | refine DW.bool ?_ | refine DW.str ?_ | refine DW.arrE rfl ?_ | ((conv => whnf); first | refine And.intro ?_ ?_ | trivial))
        · repeat' (first | exact hn | exact hp | exact hw | exact OW.same rfl rfl rfl (rowC_all _) | exact DW.same _ rfl | exact DW.ref _ _ _ rfl | exact DW.arr _ _ _ rfl | exact OW.cells rfl rfl (DWl.same rfl) | refine OW.cells rfl rfl ?_ | refine DWl.cons ?_ ?_ | exact DWl.nil | exact DW.nilArr _ rfl | exact DW.nilLst _ | refine DW.clol ?_ ?_ | refine DW.aggl ?_ | refine DW.tupl ?_ | refine DW.int ?_ | refine DW.bool ?_ | refine DW.str ?_ | refine DW.arrE rfl ?_ | ((conv => whnf); first | refine And.intro ?_ ?_ | trivial))
      · rename_i e0
        have hjk : j = l.length := by simp at e0; omega
        have hn : nJ l t (l.getD m 0) j = 1 := by unfold nJ; rw [if_pos (by omega)]
        have hp : pJ l t (l.getD m 0) j = waitT l t (l.getD m 0) := by unfold pJ; rw [if_pos (by omega)]
        rw [hn, hp] at h
        simp at h
      · have hw : IntKind.i64.wrap ((m : Int) + 1) = ((m + 1 : Nat) : Int) := wrapI (by omega) (by omega)
        refine Round.go (· + 1) hml (by show _ - (m + 1) < _ - m; omega) (Weak.list [(0, some 0)] [] (by kernel_rfl) ?_ ?_)
        · repeat' (first | exact hw | exact OW.same rfl rfl rfl (rowC_all _) | exact DW.same _ rfl | exact DW.ref _ _ _ rfl | exact DW.arr _ _ _ rfl | exact OW.cells rfl rfl (DWl.same rfl) | refine OW.cells rfl rfl ?_ | refine DWl.cons ?_ ?_ | exact DWl.nil | exact DW.nilArr _ rfl | exact DW.nilLst _ | refine DW.clol ?_ ?_ | refine DW.aggl ?_ | refine DW.tupl ?_ | refine DW.int ?_ | refine DW.bool ?_ | refine DW.str ?_ | refine DW.arrE rfl ?_ | ((conv => whnf); first | refine And.intro ?_ ?_ | trivial))
        · repeat' (first | exact hw | exact OW.same rfl rfl rfl (rowC_all _) | exact DW.same _ rfl | exact DW.ref _ _ _ rfl | exact DW.arr _ _ _ rfl | exact OW.cells rfl rfl (DWl.same rfl) | refine OW.cells rfl rfl ?_ | refine DWl.cons ?_ ?_ | exact DWl.nil | exact DW.nilArr _ rfl | exact DW.nilLst _ | refine DW.clol ?_ ?_ | refine DW.aggl ?_ | refine DW.tupl ?_ | refine DW.int ?_ | refine DW.bool ?_ | refine DW.str ?_ | refine DW.arrE rfl ?_ | ((conv => whnf); first | refine And.intro ?_ ?_ | trivial))
    · have hs := same_refl (firsts l t k)
      repeat' (first | with_reducible rfl | ((conv => whnf); first | refine And.intro ?_ ?_ | (intro h; first | exact Bool.noConfusion h | with_reducible exact h | (exfalso; simp at h; done) | (have ht : true = true := h; clear ht h) | skip) | ((with_reducible refine DWl.mark ?_); repeat' (first | refine DWl.cons ?_ ?_ | exact DWl.nil | exact DW.same _ rfl | exact DW.ref _ _ _ rfl | exact DW.arr _ _ _ rfl | exact DW.sub _ _ _ _ rfl | exact DW.nilLst _ | refine DW.aggl ?_ | refine DW.tupl ?_ | refine DW.clol ?_ ?_ | exact DW.pubM rfl (firsts_len _ _ _) rfl rfl (intsRow _) rfl | refine DW.int ?_ | refine DW.bool ?_ | refine DW.str ?_)) | ((with_reducible refine SCall.mark ?_); first | refine SCall.data (awake29_D) rfl rfl ?_ | refine SCall.scal (awake29_D) rfl rfl ?_ | refine SCall.scalT (hs) ?_ rfl ?_) | ((with_reducible refine PCall.mark ?_); first | refine PCall.mk (awake29_D) rfl rfl ?_ | refine PCall.tell (fun _ => hs) ?_ rfl ?_) | ((with_reducible refine GCall.mark ?_); first | refine GCall.data (fun _ => awake29_D) rfl rfl ?_ | refine GCall.scal (fun _ => awake29_D) rfl rfl ?_ | refine GCall.data (fun _ => hTa) rfl rfl ?_ | refine GCall.scalT (fun _ => hs) ?_ rfl ?_) | ((with_reducible refine MCall.mark ?_); first | refine MCall.data (fun _ => awake29_D) rfl rfl ?_ | refine MCall.plain (PCall.mk (awake29_D) rfl rfl ?_) | refine MCall.plain (PCall.tell (fun _ => hs) ?_ rfl ?_)) | refine dcell_ok rfl ?_ | refine AppC.new ?_))
      all_goals first | (with_reducible refine enters_mark ?_; kernel_rfl) | (with_reducible refine boolT_mark ?_; kernel_rfl) | rfl | trivial | assumption | exact Nat.le_of_ble_eq_true rfl | (show entersB _ _ = true; kernel_rfl) | exact DW.same _ rfl | exact DW.ref _ _ _ rfl | exact DW.arr _ _ _ rfl | refine DW.int ?_ | refine dvb ?_ | refine dvi ?_ | exact OW.cells rfl rfl (DWl.same rfl) | exact Nat.zero_le _ | omega | skip
      all_goals repeat' (first | refine OW.cells rfl rfl ?_ | exact DW.nilArr _ rfl | refine DWl.cons ?_ ?_ | exact DWl.nil | exact DW.same _ rfl | exact DW.ref _ _ _ rfl | exact DW.arr _ _ _ rfl | exact DW.sub _ _ _ _ rfl | exact DW.nilLst _ | refine DW.aggl ?_ | refine DW.tupl ?_ | refine DW.clol ?_ ?_ | exact DW.pubM rfl (firsts_len _ _ _) rfl rfl (intsRow _) rfl)
      all_goals try ((conv => whnf); with_reducible first | refine Round.mark ?_ | refine Tells.mark ?_ | refine Retold.mark ?_)
      all_goals try first | (show (_ : Bool) = _; simp_all; done) | (show (_ : Int) < _; simp at *; omega) | (show (_ : Int) ≤ _; simp at *; omega) | (show (_ : Nat) < _; simp at *; omega) | (show (_ : Nat) ≤ _; simp at *; omega)
      all_goals trace_state
end Go.Proofs.Ytopdllcpeaflaaa
