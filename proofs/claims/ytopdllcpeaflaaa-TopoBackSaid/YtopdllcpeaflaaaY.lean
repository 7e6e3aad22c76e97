/- The law of linking and unlinking. -/
import Derived.Test.YtopdllcpeaflaaaZ
import Derived.Test.YtopdllcpeaflaaaX
namespace Go.Proofs.Ytopdllcpeaflaaa
open Go.RowKit Go.Dl
attribute [local irreducible] Tri SCall DFun QSem PCall GCall MCall Round Weak dloadE OW DWl Tells IntKind.wrap Retold ESem

theorem has_E {l : List Int} {v : Int} (b : Bool) (h : decide (v ∈ l) = b) : DPure Try.prog 34 [ints l, int1 v] (.v (.bool b)) := by
  have := has_D l v
  unfold hasB at this
  rwa [h] at this
def backSt (id : Int) (l : List Int) (t : Nat) (v : Int) (m : List Int) (a : Nat) (k : Nat) : St :=
  ⟨0, tmOf [(1, ints l), (2, int1 t), (14, ints m), (15, int1 a), (117, ints m), (118, int1 m.length), (119, int1 k)], .of [] 0⟩
set_option maxRecDepth 100000 in
set_option maxHeartbeats 2000000 in
theorem back10_D (id : Int) (l : List Int) (turn v : Int) : DPure Try.prog 10 [int1 id, ints l, int1 turn, int1 v] (.v (.bool true)) := by
  have hD := fit28_D id l turn
  cases hfit : fitT id l turn with
  | false =>
    rw [hfit] at hD
    refine DFun.body Try.func10 rfl (by kernel_rfl) ?_
    repeat' (first | with_reducible rfl | ((conv => whnf); first | refine And.intro ?_ ?_ | (intro h; first | exact Bool.noConfusion h | with_reducible exact h | (have ht : true = true := h; clear ht h) | skip) | ((with_reducible refine DWl.mark ?_); repeat' (first | refine DWl.cons ?_ ?_ | exact DWl.nil | exact DW.same _ rfl | exact DW.ref _ _ _ rfl | exact DW.arr _ _ _ rfl | exact DW.sub _ _ _ _ rfl | exact DW.nilLst _ | refine DW.aggl ?_ | refine DW.tupl ?_ | refine DW.clol ?_ ?_ | refine DW.int ?_ | refine DW.bool ?_ | refine DW.str ?_)) | ((with_reducible refine SCall.mark ?_); first | refine SCall.data (hD) rfl rfl ?_ | refine SCall.data (awake29_D) rfl rfl ?_ | refine SCall.scal (awake29_D) rfl rfl ?_) | ((with_reducible refine PCall.mark ?_); first | refine PCall.mk (awake29_D) rfl rfl ?_) | ((with_reducible refine GCall.mark ?_); first | refine GCall.data (fun _ => hD) rfl rfl ?_ | refine GCall.data (fun _ => awake29_D) rfl rfl ?_ | refine GCall.scal (fun _ => awake29_D) rfl rfl ?_) | ((with_reducible refine MCall.mark ?_); first | refine MCall.data (fun _ => hD) rfl rfl ?_ | refine MCall.data (fun _ => awake29_D) rfl rfl ?_ | refine MCall.plain (PCall.mk (awake29_D) rfl rfl ?_)) | refine dcell_ok rfl ?_ | refine AppC.new ?_))
    all_goals try first | (with_reducible refine enters_mark ?_; kernel_rfl) | (with_reducible refine boolT_mark ?_; kernel_rfl) | with_reducible exact Nat.le_of_ble_eq_true rfl | (show Option.isSome (slElem _ _) = true; kernel_rfl) | (show slElem _ _ = some _; kernel_rfl) | (show (_ : Nat) < List.length [_, _]; simp; done) | (show (_ : Nat) < List.length [_, _, _]; simp; done) | (show (_ : Bool) = _; simp_all; done)
    all_goals try ((conv => whnf); first | exact dvb rfl | exact dvi rfl | (refine dvb ?_; simp_all; done) | with_reducible refine Round.mark ?_ | with_reducible refine Tells.mark ?_ | with_reducible refine Retold.mark ?_)
    all_goals try first | (show (_ : Int) < _; first | omega | (simp at *; done) | (simp at *; omega)) | (show (_ : Int) ≤ _; first | omega | (simp at *; done) | (simp at *; omega)) | (show (_ : Nat) < _; first | omega | (simp at *; done) | (simp at *; omega)) | (show (_ : Nat) ≤ _; first | omega | (simp at *; done) | (simp at *; omega))
  | true =>
    rw [hfit] at hD
    obtain ⟨f1, f2, f3, f4, f5, hnd⟩ := fitT_facts hfit
    obtain ⟨t, rfl⟩ := Int.eq_ofNat_of_zero_le f3
    have hl : l.length ≤ 1000000 := by omega
    have ht : t < max l.length 1 := by omega
    have htu : (t : Int) < 9223372036854775807 := by omega
    have hmem := fitT_mem f5
    have hL := link31_D id l v hl
    have hU := unlink36_D l t v hl htu
    by_cases hm : v ∈ l
    · have hi := List.idxOf_lt_length_of_mem hm
      have ht' : t < l.length := by omega
      have hlink : linkT id l v = (l, 42) := by
        unfold linkT
        rw [if_neg (by rw [(hmem v hm).1]; simp), if_neg (hmem v hm).2, if_pos hm]
      rw [hlink] at hL
      rw [unlink_eq hm] at hU
      obtain ⟨k1, k2⟩ := unlink_fit (t := t) f1 f2 hmem hnd hi
      have hF := fit27_D id (l.eraseIdx (l.idxOf v)) (t2 l.length (l.idxOf v) t : Nat)
      rw [k1] at hF
      have hmnd : (l.eraseIdx (l.idxOf v)).Nodup := hnd.sublist (List.eraseIdx_sublist _ _)
      have hml : (l.eraseIdx (l.idxOf v)).length ≤ 1000000 := by rw [List.length_eraseIdx_of_lt hi]; omega
      have hlv : l[l.idxOf v] = v := List.getElem_idxOf hi
      have hHm := has_E (l := l.eraseIdx (l.idxOf v)) (v := v) false (decide_eq_false fun h => ((erase_mem hi hnd v).1 h).2 hlv.symm)
      have hwait := fun x (hx : x ∈ l.eraseIdx (l.idxOf v)) => unlink_wait f2 ht' hnd hm hx
      generalize l.eraseIdx (l.idxOf v) = m at *
      generalize t2 l.length (l.idxOf v) t = a at *
      refine DFun.body Try.func10 rfl (by kernel_rfl) ?_
      repeat' (first | with_reducible rfl | ((conv => whnf); first | refine And.intro ?_ ?_ | (intro h; first | exact Bool.noConfusion h | with_reducible exact h | (exfalso; simp at h; done) | (have ht : true = true := h; clear ht h) | skip) | ((with_reducible refine DWl.mark ?_); repeat' (first | refine DWl.cons ?_ ?_ | exact DWl.nil | exact DW.same _ rfl | exact DW.ref _ _ _ rfl | exact DW.arr _ _ _ rfl | exact DW.sub _ _ _ _ rfl | exact DW.nilLst _ | refine DW.aggl ?_ | refine DW.tupl ?_ | refine DW.clol ?_ ?_ | refine DW.int ?_ | refine DW.bool ?_ | refine DW.str ?_)) | ((with_reducible refine SCall.mark ?_); first | refine SCall.data (hD) rfl rfl ?_ | refine SCall.data (awake29_D) rfl rfl ?_ | refine SCall.scal (awake29_D) rfl rfl ?_ | refine SCall.data (hL) rfl rfl ?_ | refine SCall.data (hU) rfl rfl ?_ | refine SCall.data (hF) rfl rfl ?_ | refine SCall.scal (hF) rfl rfl ?_ | refine SCall.data (hHm) rfl rfl ?_ | refine SCall.scal (hHm) rfl rfl ?_) | ((with_reducible refine PCall.mark ?_); first | refine PCall.mk (awake29_D) rfl rfl ?_ | refine PCall.mk (hF) rfl rfl ?_ | refine PCall.mk (hHm) rfl rfl ?_) | ((with_reducible refine GCall.mark ?_); first | refine GCall.data (fun _ => hD) rfl rfl ?_ | refine GCall.data (fun _ => awake29_D) rfl rfl ?_ | refine GCall.scal (fun _ => awake29_D) rfl rfl ?_ | refine GCall.data (fun _ => hL) rfl rfl ?_ | refine GCall.data (fun _ => hU) rfl rfl ?_ | refine GCall.data (fun _ => hF) rfl rfl ?_ | refine GCall.scal (fun _ => hF) rfl rfl ?_ | refine GCall.data (fun _ => hHm) rfl rfl ?_ | refine GCall.scal (fun _ => hHm) rfl rfl ?_) | ((with_reducible refine MCall.mark ?_); first | refine MCall.data (fun _ => hD) rfl rfl ?_ | refine MCall.data (fun _ => awake29_D) rfl rfl ?_ | refine MCall.plain (PCall.mk (awake29_D) rfl rfl ?_) | refine MCall.data (fun _ => hL) rfl rfl ?_ | refine MCall.data (fun _ => hU) rfl rfl ?_ | refine MCall.data (fun _ => hF) rfl rfl ?_ | refine MCall.plain (PCall.mk (hF) rfl rfl ?_) | refine MCall.data (fun _ => hHm) rfl rfl ?_ | refine MCall.plain (PCall.mk (hHm) rfl rfl ?_)) | refine dcell_ok rfl ?_ | refine AppC.new ?_))
      all_goals try first | (with_reducible refine enters_mark ?_; kernel_rfl) | (with_reducible refine boolT_mark ?_; kernel_rfl) | with_reducible exact Nat.le_of_ble_eq_true rfl | (show Option.isSome (slElem _ _) = true; kernel_rfl) | (show slElem _ _ = some _; kernel_rfl) | (show (_ : Nat) < List.length [_, _]; simp; done) | (show (_ : Nat) < List.length [_, _, _]; simp; done) | (show (_ : Bool) = _; simp_all; done)
      all_goals try ((conv => whnf); first | exact dvb rfl | exact dvi rfl | (refine dvb ?_; simp_all; done) | with_reducible refine Round.mark ?_ | with_reducible refine Tells.mark ?_ | with_reducible refine Retold.mark ?_)
      all_goals try first | (show (_ : Int) < _; first | omega | (simp at *; done) | (simp at *; omega)) | (show (_ : Int) ≤ _; first | omega | (simp at *; done) | (simp at *; omega)) | (show (_ : Nat) < _; first | omega | (simp at *; done) | (simp at *; omega)) | (show (_ : Nat) ≤ _; first | omega | (simp at *; done) | (simp at *; omega))
      conv => whnf
      have hM : (((m.map intD).length : Nat) : Int) = m.length := by simp
      refine Tri.loop (backSt id l t v m a) (· ≤ m.length) (fun k => m.length - k) 0 (by kernel_rfl) (Weak.list [] [] (by kernel_rfl) ?_ ?_) (Nat.zero_le _) ?_
      · repeat' (first | exact hM | exact DW.same _ rfl | exact DW.ref _ _ _ rfl | exact DW.arr _ _ _ rfl | exact OW.cells rfl rfl (DWl.same rfl) | refine OW.cells rfl rfl ?_ | refine DWl.cons ?_ ?_ | exact DWl.nil | exact DW.nilArr _ rfl | exact DW.nilLst _ | refine DW.clol ?_ ?_ | refine DW.aggl ?_ | refine DW.tupl ?_ | refine DW.int ?_ | refine DW.bool ?_ | refine DW.str ?_ | refine DW.arrE rfl ?_ | ((conv => whnf); first | refine And.intro ?_ ?_ | trivial))
      · repeat' (first | exact hM | exact DW.same _ rfl | exact DW.ref _ _ _ rfl | exact DW.arr _ _ _ rfl | exact OW.cells rfl rfl (DWl.same rfl) | refine OW.cells rfl rfl ?_ | refine DWl.cons ?_ ?_ | exact DWl.nil | exact DW.nilArr _ rfl | exact DW.nilLst _ | refine DW.clol ?_ ?_ | refine DW.aggl ?_ | refine DW.tupl ?_ | refine DW.int ?_ | refine DW.bool ?_ | refine DW.str ?_ | refine DW.arrE rfl ?_ | ((conv => whnf); first | refine And.intro ?_ ?_ | trivial))
      intro k hk
      repeat' (first | with_reducible rfl | ((conv => whnf); first | refine And.intro ?_ ?_ | (intro h; first | exact Bool.noConfusion h | with_reducible exact h | (exfalso; simp at h; done) | (have ht : true = true := h; clear ht h) | skip) | ((with_reducible refine DWl.mark ?_); repeat' (first | refine DWl.cons ?_ ?_ | exact DWl.nil | exact DW.same _ rfl | exact DW.ref _ _ _ rfl | exact DW.arr _ _ _ rfl | exact DW.sub _ _ _ _ rfl | exact DW.nilLst _ | refine DW.aggl ?_ | refine DW.tupl ?_ | refine DW.clol ?_ ?_ | refine DW.int ?_ | refine DW.bool ?_ | refine DW.str ?_)) | ((with_reducible refine SCall.mark ?_); first | refine SCall.data (awake29_D) rfl rfl ?_ | refine SCall.scal (awake29_D) rfl rfl ?_ | refine SCall.data (wait40_A l t ht hl hnd _) rfl rfl ?_ | refine SCall.data (wait40_A m a k2 hml hmnd _) rfl rfl ?_) | ((with_reducible refine PCall.mark ?_); first | refine PCall.mk (awake29_D) rfl rfl ?_) | ((with_reducible refine GCall.mark ?_); first | refine GCall.data (fun _ => awake29_D) rfl rfl ?_ | refine GCall.scal (fun _ => awake29_D) rfl rfl ?_ | refine GCall.data (fun _ => wait40_A l t ht hl hnd _) rfl rfl ?_ | refine GCall.data (fun _ => wait40_A m a k2 hml hmnd _) rfl rfl ?_) | ((with_reducible refine MCall.mark ?_); first | refine MCall.data (fun _ => awake29_D) rfl rfl ?_ | refine MCall.plain (PCall.mk (awake29_D) rfl rfl ?_) | refine MCall.data (fun _ => wait40_A l t ht hl hnd _) rfl rfl ?_ | refine MCall.data (fun _ => wait40_A m a k2 hml hmnd _) rfl rfl ?_) | refine dloadE_map (0) ?_ ?_ | refine dcell_ok rfl ?_ | refine AppC.new ?_))
      all_goals try first | (with_reducible refine enters_mark ?_; kernel_rfl) | (with_reducible refine boolT_mark ?_; kernel_rfl) | with_reducible exact Nat.le_of_ble_eq_true rfl | (show Option.isSome (slElem _ _) = true; kernel_rfl) | (show slElem _ _ = some _; kernel_rfl) | (show (_ : Nat) < List.length [_, _]; simp; done) | (show (_ : Nat) < List.length [_, _, _]; simp; done) | (show (_ : Bool) = _; simp_all; done)
      all_goals try ((conv => whnf); first | exact dvb rfl | exact dvi rfl | (refine dvb ?_; simp_all; done) | with_reducible refine Round.mark ?_ | with_reducible refine Tells.mark ?_ | with_reducible refine Retold.mark ?_)
      all_goals try first | (show (_ : Int) < _; first | omega | (simp at *; done) | (simp at *; omega)) | (show (_ : Int) ≤ _; first | omega | (simp at *; done) | (simp at *; omega)) | (show (_ : Nat) < _; first | omega | (simp at *; done) | (simp at *; omega)) | (show (_ : Nat) ≤ _; first | omega | (simp at *; done) | (simp at *; omega))
      · exfalso
        have hkl : k < m.length := by simpa using ‹decide ((k : Int) < (m.length : Nat)) = true›
        have hx := hwait (m.getD k 0) (by rw [List.getD_eq_getElem?_getD, List.getElem?_eq_getElem hkl]; exact List.getElem_mem hkl)
        have h1 : waitT l t (m.getD k 0) ≤ 7 := by
          unfold waitT
          split
          · have := Nat.mod_lt (l.idxOf (m.getD k 0) + (l.length - t)) (show 0 < l.length by omega)
            omega
          · omega
        rw [Int.toNat_natCast, wrapI (by omega) (by omega)] at h
        generalize waitT m a (m.getD k 0) = A at *
        generalize waitT l t (m.getD k 0) = B at *
        simp at h
        omega
      · have hkl : k < m.length := by simpa using ‹decide ((k : Int) < (m.length : Nat)) = true›
        have hw : IntKind.i64.wrap ((k : Int) + 1) = ((k + 1 : Nat) : Int) := wrapI (by omega) (by omega)
        refine Round.go (· + 1) hkl (by show _ - (k + 1) < _ - k; omega) (Weak.list [] [] (by kernel_rfl) ?_ ?_)
        · repeat' (first | exact hw | exact DW.same _ rfl | exact DW.ref _ _ _ rfl | exact DW.arr _ _ _ rfl | exact OW.cells rfl rfl (DWl.same rfl) | refine OW.cells rfl rfl ?_ | refine DWl.cons ?_ ?_ | exact DWl.nil | exact DW.nilArr _ rfl | exact DW.nilLst _ | refine DW.clol ?_ ?_ | refine DW.aggl ?_ | refine DW.tupl ?_ | refine DW.int ?_ | refine DW.bool ?_ | refine DW.str ?_ | refine DW.arrE rfl ?_ | ((conv => whnf); first | refine And.intro ?_ ?_ | trivial))
        · repeat' (first | exact hw | exact DW.same _ rfl | exact DW.ref _ _ _ rfl | exact DW.arr _ _ _ rfl | exact OW.cells rfl rfl (DWl.same rfl) | refine OW.cells rfl rfl ?_ | refine DWl.cons ?_ ?_ | exact DWl.nil | exact DW.nilArr _ rfl | exact DW.nilLst _ | refine DW.clol ?_ ?_ | refine DW.aggl ?_ | refine DW.tupl ?_ | refine DW.int ?_ | refine DW.bool ?_ | refine DW.str ?_ | refine DW.arrE rfl ?_ | ((conv => whnf); first | refine And.intro ?_ ?_ | trivial))
    · have hU2 : unlinkT l t v = (l, (t : Int), 44) := by unfold unlinkT; rw [if_neg hm]
      rw [hU2] at hU
      have hH0 := has_E (l := l) (v := v) false (decide_eq_false hm)
      by_cases hok : nodeB v = true ∧ v ≠ id ∧ l.length < 6
      · obtain ⟨o1, o2, o3⟩ := hok
        have hlink : linkT id l v = (l ++ [v], 0) := by
          unfold linkT
          rw [if_neg (by rw [o1]; simp), if_neg o2, if_neg hm, if_neg (by omega)]
        rw [hlink] at hL
        have hF := fit27_D id (l ++ [v]) t
        rw [link_fit f1 ht hmem hnd o1 o2 hm o3] at hF
        have hH1 := has_E (l := l ++ [v]) (v := v) true (decide_eq_true (by simp))
        have hU1 := unlink36_D (l ++ [v]) t v (by simp; omega) htu
        rw [link_back ht hm] at hU1
        refine DFun.body Try.func10 rfl (by kernel_rfl) ?_
        repeat' (first | with_reducible rfl | ((conv => whnf); first | refine And.intro ?_ ?_ | (intro h; first | exact Bool.noConfusion h | with_reducible exact h | (exfalso; simp at h; done) | (have ht : true = true := h; clear ht h) | skip) | ((with_reducible refine DWl.mark ?_); repeat' (first | refine DWl.cons ?_ ?_ | exact DWl.nil | exact DW.same _ rfl | exact DW.ref _ _ _ rfl | exact DW.arr _ _ _ rfl | exact DW.sub _ _ _ _ rfl | exact DW.nilLst _ | refine DW.aggl ?_ | refine DW.tupl ?_ | refine DW.clol ?_ ?_ | refine DW.int ?_ | refine DW.bool ?_ | refine DW.str ?_)) | ((with_reducible refine SCall.mark ?_); first | refine SCall.data (hD) rfl rfl ?_ | refine SCall.data (awake29_D) rfl rfl ?_ | refine SCall.scal (awake29_D) rfl rfl ?_ | refine SCall.data (hL) rfl rfl ?_ | refine SCall.data (hU) rfl rfl ?_ | refine SCall.data (hU1) rfl rfl ?_ | refine SCall.data (hF) rfl rfl ?_ | refine SCall.scal (hF) rfl rfl ?_ | refine SCall.data (hH0) rfl rfl ?_ | refine SCall.scal (hH0) rfl rfl ?_ | refine SCall.data (hH1) rfl rfl ?_ | refine SCall.scal (hH1) rfl rfl ?_ | refine SCall.data (same_refl l) rfl rfl ?_ | refine SCall.scal (same_refl l) rfl rfl ?_) | ((with_reducible refine PCall.mark ?_); first | refine PCall.mk (awake29_D) rfl rfl ?_ | refine PCall.mk (hF) rfl rfl ?_ | refine PCall.mk (hH0) rfl rfl ?_ | refine PCall.mk (hH1) rfl rfl ?_ | refine PCall.mk (same_refl l) rfl rfl ?_) | ((with_reducible refine GCall.mark ?_); first | refine GCall.data (fun _ => hD) rfl rfl ?_ | refine GCall.data (fun _ => awake29_D) rfl rfl ?_ | refine GCall.scal (fun _ => awake29_D) rfl rfl ?_ | refine GCall.data (fun _ => hL) rfl rfl ?_ | refine GCall.data (fun _ => hU) rfl rfl ?_ | refine GCall.data (fun _ => hU1) rfl rfl ?_ | refine GCall.data (fun _ => hF) rfl rfl ?_ | refine GCall.scal (fun _ => hF) rfl rfl ?_ | refine GCall.data (fun _ => hH0) rfl rfl ?_ | refine GCall.scal (fun _ => hH0) rfl rfl ?_ | refine GCall.data (fun _ => hH1) rfl rfl ?_ | refine GCall.scal (fun _ => hH1) rfl rfl ?_ | refine GCall.data (fun _ => same_refl l) rfl rfl ?_ | refine GCall.scal (fun _ => same_refl l) rfl rfl ?_) | ((with_reducible refine MCall.mark ?_); first | refine MCall.data (fun _ => hD) rfl rfl ?_ | refine MCall.data (fun _ => awake29_D) rfl rfl ?_ | refine MCall.plain (PCall.mk (awake29_D) rfl rfl ?_) | refine MCall.data (fun _ => hL) rfl rfl ?_ | refine MCall.data (fun _ => hU) rfl rfl ?_ | refine MCall.data (fun _ => hU1) rfl rfl ?_ | refine MCall.data (fun _ => hF) rfl rfl ?_ | refine MCall.plain (PCall.mk (hF) rfl rfl ?_) | refine MCall.data (fun _ => hH0) rfl rfl ?_ | refine MCall.plain (PCall.mk (hH0) rfl rfl ?_) | refine MCall.data (fun _ => hH1) rfl rfl ?_ | refine MCall.plain (PCall.mk (hH1) rfl rfl ?_) | refine MCall.data (fun _ => same_refl l) rfl rfl ?_ | refine MCall.plain (PCall.mk (same_refl l) rfl rfl ?_)) | refine dcell_ok rfl ?_ | refine AppC.new ?_))
        all_goals try first | (with_reducible refine enters_mark ?_; kernel_rfl) | (with_reducible refine boolT_mark ?_; kernel_rfl) | with_reducible exact Nat.le_of_ble_eq_true rfl | (show Option.isSome (slElem _ _) = true; kernel_rfl) | (show slElem _ _ = some _; kernel_rfl) | (show (_ : Nat) < List.length [_, _]; simp; done) | (show (_ : Nat) < List.length [_, _, _]; simp; done) | (show (_ : Bool) = _; simp_all; done)
        all_goals try ((conv => whnf); first | exact dvb rfl | exact dvi rfl | (refine dvb ?_; simp_all; done) | with_reducible refine Round.mark ?_ | with_reducible refine Tells.mark ?_ | with_reducible refine Retold.mark ?_)
        all_goals try first | (show (_ : Int) < _; first | omega | (simp at *; done) | (simp at *; omega)) | (show (_ : Int) ≤ _; first | omega | (simp at *; done) | (simp at *; omega)) | (show (_ : Nat) < _; first | omega | (simp at *; done) | (simp at *; omega)) | (show (_ : Nat) ≤ _; first | omega | (simp at *; done) | (simp at *; omega))
        · exfalso
          have h1 : (((((l ++ [v], (0 : Int)).1).map intD).length : Nat) : Int) = IntKind.i64.wrap ((((l.map intD).length : Nat) : Int) + 1) := by
            rw [wrapI (by simp; omega) (by simp; omega)]; simp
          rw [h1] at h
          simp at h
      · obtain ⟨E, hlink, hE⟩ : ∃ E, linkT id l v = (l, E) ∧ E ≠ 0 := by
          unfold linkT
          by_cases h1 : nodeB v = false
          · exact ⟨40, if_pos h1, by decide⟩
          · rw [if_neg h1]
            by_cases h2 : v = id
            · exact ⟨41, if_pos h2, by decide⟩
            · rw [if_neg h2, if_neg hm]
              refine ⟨43, if_pos ?_, by decide⟩
              have h3 : nodeB v = true := by simpa using h1
              rcases Nat.lt_or_ge l.length 6 with h4 | h4
              · exact absurd ⟨h3, h2, h4⟩ hok
              · exact h4
        rw [hlink] at hL
        refine DFun.body Try.func10 rfl (by kernel_rfl) ?_
        repeat' (first | with_reducible rfl | ((conv => whnf); first | refine And.intro ?_ ?_ | (intro h; first | exact Bool.noConfusion h | with_reducible exact h | (exfalso; simp [hE] at h; done) | (have ht : true = true := h; clear ht h) | skip) | ((with_reducible refine DWl.mark ?_); repeat' (first | refine DWl.cons ?_ ?_ | exact DWl.nil | exact DW.same _ rfl | exact DW.ref _ _ _ rfl | exact DW.arr _ _ _ rfl | exact DW.sub _ _ _ _ rfl | exact DW.nilLst _ | refine DW.aggl ?_ | refine DW.tupl ?_ | refine DW.clol ?_ ?_ | refine DW.int ?_ | refine DW.bool ?_ | refine DW.str ?_)) | ((with_reducible refine SCall.mark ?_); first | refine SCall.data (hD) rfl rfl ?_ | refine SCall.data (awake29_D) rfl rfl ?_ | refine SCall.scal (awake29_D) rfl rfl ?_ | refine SCall.data (hL) rfl rfl ?_ | refine SCall.data (hU) rfl rfl ?_ | refine SCall.data (hH0) rfl rfl ?_ | refine SCall.scal (hH0) rfl rfl ?_ | refine SCall.data (same_refl l) rfl rfl ?_ | refine SCall.scal (same_refl l) rfl rfl ?_) | ((with_reducible refine PCall.mark ?_); first | refine PCall.mk (awake29_D) rfl rfl ?_ | refine PCall.mk (hH0) rfl rfl ?_ | refine PCall.mk (same_refl l) rfl rfl ?_) | ((with_reducible refine GCall.mark ?_); first | refine GCall.data (fun _ => hD) rfl rfl ?_ | refine GCall.data (fun _ => awake29_D) rfl rfl ?_ | refine GCall.scal (fun _ => awake29_D) rfl rfl ?_ | refine GCall.data (fun _ => hL) rfl rfl ?_ | refine GCall.data (fun _ => hU) rfl rfl ?_ | refine GCall.data (fun _ => hH0) rfl rfl ?_ | refine GCall.scal (fun _ => hH0) rfl rfl ?_ | refine GCall.data (fun _ => same_refl l) rfl rfl ?_ | refine GCall.scal (fun _ => same_refl l) rfl rfl ?_) | ((with_reducible refine MCall.mark ?_); first | refine MCall.data (fun _ => hD) rfl rfl ?_ | refine MCall.data (fun _ => awake29_D) rfl rfl ?_ | refine MCall.plain (PCall.mk (awake29_D) rfl rfl ?_) | refine MCall.data (fun _ => hL) rfl rfl ?_ | refine MCall.data (fun _ => hU) rfl rfl ?_ | refine MCall.data (fun _ => hH0) rfl rfl ?_ | refine MCall.plain (PCall.mk (hH0) rfl rfl ?_) | refine MCall.data (fun _ => same_refl l) rfl rfl ?_ | refine MCall.plain (PCall.mk (same_refl l) rfl rfl ?_)) | refine dcell_ok rfl ?_ | refine AppC.new ?_))
        all_goals try first | (with_reducible refine enters_mark ?_; kernel_rfl) | (with_reducible refine boolT_mark ?_; kernel_rfl) | with_reducible exact Nat.le_of_ble_eq_true rfl | (show Option.isSome (slElem _ _) = true; kernel_rfl) | (show slElem _ _ = some _; kernel_rfl) | (show (_ : Nat) < List.length [_, _]; simp; done) | (show (_ : Nat) < List.length [_, _, _]; simp; done) | (show (_ : Bool) = _; simp_all; done)
        all_goals try ((conv => whnf); first | exact dvb rfl | exact dvi rfl | (refine dvb ?_; simp_all; done) | with_reducible refine Round.mark ?_ | with_reducible refine Tells.mark ?_ | with_reducible refine Retold.mark ?_)
        all_goals try first | (show (_ : Int) < _; first | omega | (simp at *; done) | (simp at *; omega)) | (show (_ : Int) ≤ _; first | omega | (simp at *; done) | (simp at *; omega)) | (show (_ : Nat) < _; first | omega | (simp at *; done) | (simp at *; omega)) | (show (_ : Nat) ≤ _; first | omega | (simp at *; done) | (simp at *; omega))
        all_goals trace_state
end Go.Proofs.Ytopdllcpeaflaaa
