/- The law of changes there and back; leaves that are done to. -/
import Derived.Test.YtagfmppjlfhmeaaGreatDoorPkG
import Derived.Test.YtagfmppjlfhmeaaGreatDoorPkI

namespace Go.Proofs.YtagfmppjlfhmeaaGreatDoor
open Go.RowKit Go.Dl
attribute [local irreducible] Tri SCall TSem ECall Drawn DFun QSem PSem PCall GCall MCall Round Weak dloadE OW DWl Tells IntKind.wrap Retold ESem
set_option maxRecDepth 100000 in
set_option maxHeartbeats 2000000 in
theorem changes5_D (a b : List Lf) (ha : SmL a) (hb : SmL b) (hl : a.length + b.length ≤ 1048576) (hw : DPure Tryz.prog 9 [] (bl true)) : DPure Tryz.prog 5 [lfs a, lfs b] (bl true) := by
  have f1 := fit7_D a ha
  have f2 := fit7_D b hb
  by_cases h1 : fitLB a = true
  · by_cases h2 : fitLB b = true
    · have k1 := fitL_iff.1 h1
      have k2 := fitL_iff.1 h2
      have la : a.length ≤ 4194304 := ha.1
      have lb : b.length ≤ 4194304 := hb.1
      have e1 := bet_app k1.2 k2.2
      have e2 := bet_app k2.2 k1.2
      have e3 := bet_back a b
      have e4 := bet_self a
      have kc := bet_fit val_em k1 k2
      have lc := bet_len a b
      have lc2 := bet_len b a
      have c1 := leaves10_D a la
      have c2 := leaves10_D b lb
      have c3 := between20_D a b la lb
      have c4 := back21_D (betT a b) (by omega)
      rw [e3] at c4
      have c5 := between22_D a b la lb
      have c6 := same17_D (betT a b) (betT a b) (by omega)
      have c7 := back23_D (betT a b) (by omega)
      rw [e3] at c7
      have c8 := same17_D (betT b a) (betT b a) (by omega)
      have c9 := between20_D b a lb la
      have d1 := chg24_D (betT a b) (smc_fit kc (by omega))
      have d2 := apply11_D a (betT a b) la (by omega)
      have d3 := apply11_D b (betT b a) lb (by omega)
      rw [e1] at d2
      rw [e2] at d3
      have d4 := same13_D b b (by omega)
      have d5 := same13_D a a (by omega)
      have d6 := between20_D a a la la
      rw [e4] at d6
      have g1 : fitCB (betT a b) = true := fitC_iff.2 kc
      rw [g1] at d1
      rw [h1] at f1
      rw [h2] at f2
      rw [decide_eq_true rfl] at c6 c8 d4 d5
      refine DFun.data (DFun.body Tryz.func5 rfl (by kernel_rfl) ?_)
      repeat' (first | with_reducible rfl | ((conv => whnf); first | refine And.intro ?_ ?_ | (intro h; first | with_reducible exact tf_no h | with_reducible exact ft_no h | exact Bool.noConfusion h | with_reducible exact h | (have ht : true = true := h; clear ht h) | skip) | ((with_reducible refine SCall.mark ?_); first | refine SCall.data (f1) rfl rfl ?_ | refine SCall.scal (f1) rfl rfl ?_ | refine SCall.data (f2) rfl rfl ?_ | refine SCall.scal (f2) rfl rfl ?_ | refine SCall.data (c1) rfl rfl ?_ | refine SCall.scal (c1) rfl rfl ?_ | refine SCall.data (c2) rfl rfl ?_ | refine SCall.scal (c2) rfl rfl ?_ | refine SCall.data (c3) rfl rfl ?_ | refine SCall.scal (c3) rfl rfl ?_ | refine SCall.data (c4) rfl rfl ?_ | refine SCall.scal (c4) rfl rfl ?_ | refine SCall.data (c5) rfl rfl ?_ | refine SCall.scal (c5) rfl rfl ?_ | refine SCall.data (c6) rfl rfl ?_ | refine SCall.scal (c6) rfl rfl ?_ | refine SCall.data (c7) rfl rfl ?_ | refine SCall.scal (c7) rfl rfl ?_ | refine SCall.data (c8) rfl rfl ?_ | refine SCall.scal (c8) rfl rfl ?_ | refine SCall.data (c9) rfl rfl ?_ | refine SCall.scal (c9) rfl rfl ?_ | refine SCall.data (d1) rfl rfl ?_ | refine SCall.scal (d1) rfl rfl ?_ | refine SCall.data (d2) rfl rfl ?_ | refine SCall.scal (d2) rfl rfl ?_ | refine SCall.data (d3) rfl rfl ?_ | refine SCall.scal (d3) rfl rfl ?_ | refine SCall.data (d4) rfl rfl ?_ | refine SCall.scal (d4) rfl rfl ?_ | refine SCall.data (d5) rfl rfl ?_ | refine SCall.scal (d5) rfl rfl ?_ | refine SCall.data (d6) rfl rfl ?_ | refine SCall.scal (d6) rfl rfl ?_ | refine SCall.data (hw) rfl rfl ?_ | refine SCall.scal (hw) rfl rfl ?_) | ((with_reducible refine PCall.mark ?_); first | refine PCall.mk (f1) rfl rfl ?_ | refine PCall.mk (f2) rfl rfl ?_ | refine PCall.mk (c1) rfl rfl ?_ | refine PCall.mk (c2) rfl rfl ?_ | refine PCall.mk (c3) rfl rfl ?_ | refine PCall.mk (c4) rfl rfl ?_ | refine PCall.mk (c5) rfl rfl ?_ | refine PCall.mk (c6) rfl rfl ?_ | refine PCall.mk (c7) rfl rfl ?_ | refine PCall.mk (c8) rfl rfl ?_ | refine PCall.mk (c9) rfl rfl ?_ | refine PCall.mk (d1) rfl rfl ?_ | refine PCall.mk (d2) rfl rfl ?_ | refine PCall.mk (d3) rfl rfl ?_ | refine PCall.mk (d4) rfl rfl ?_ | refine PCall.mk (d5) rfl rfl ?_ | refine PCall.mk (d6) rfl rfl ?_ | refine PCall.mk (hw) rfl rfl ?_) | ((with_reducible refine GCall.mark ?_); first | refine GCall.data (fun _ => f1) rfl rfl ?_ | refine GCall.scal (fun _ => f1) rfl rfl ?_ | refine GCall.data (fun _ => f2) rfl rfl ?_ | refine GCall.scal (fun _ => f2) rfl rfl ?_ | refine GCall.data (fun _ => c1) rfl rfl ?_ | refine GCall.scal (fun _ => c1) rfl rfl ?_ | refine GCall.data (fun _ => c2) rfl rfl ?_ | refine GCall.scal (fun _ => c2) rfl rfl ?_ | refine GCall.data (fun _ => c3) rfl rfl ?_ | refine GCall.scal (fun _ => c3) rfl rfl ?_ | refine GCall.data (fun _ => c4) rfl rfl ?_ | refine GCall.scal (fun _ => c4) rfl rfl ?_ | refine GCall.data (fun _ => c5) rfl rfl ?_ | refine GCall.scal (fun _ => c5) rfl rfl ?_ | refine GCall.data (fun _ => c6) rfl rfl ?_ | refine GCall.scal (fun _ => c6) rfl rfl ?_ | refine GCall.data (fun _ => c7) rfl rfl ?_ | refine GCall.scal (fun _ => c7) rfl rfl ?_ | refine GCall.data (fun _ => c8) rfl rfl ?_ | refine GCall.scal (fun _ => c8) rfl rfl ?_ | refine GCall.data (fun _ => c9) rfl rfl ?_ | refine GCall.scal (fun _ => c9) rfl rfl ?_ | refine GCall.data (fun _ => d1) rfl rfl ?_ | refine GCall.scal (fun _ => d1) rfl rfl ?_ | refine GCall.data (fun _ => d2) rfl rfl ?_ | refine GCall.scal (fun _ => d2) rfl rfl ?_ | refine GCall.data (fun _ => d3) rfl rfl ?_ | refine GCall.scal (fun _ => d3) rfl rfl ?_ | refine GCall.data (fun _ => d4) rfl rfl ?_ | refine GCall.scal (fun _ => d4) rfl rfl ?_ | refine GCall.data (fun _ => d5) rfl rfl ?_ | refine GCall.scal (fun _ => d5) rfl rfl ?_ | refine GCall.data (fun _ => d6) rfl rfl ?_ | refine GCall.scal (fun _ => d6) rfl rfl ?_ | refine GCall.data (fun _ => hw) rfl rfl ?_ | refine GCall.scal (fun _ => hw) rfl rfl ?_) | ((with_reducible refine MCall.mark ?_); first | refine MCall.data (fun _ => f1) rfl rfl ?_ | refine MCall.plain (PCall.mk (f1) rfl rfl ?_) | refine MCall.data (fun _ => f2) rfl rfl ?_ | refine MCall.plain (PCall.mk (f2) rfl rfl ?_) | refine MCall.data (fun _ => c1) rfl rfl ?_ | refine MCall.plain (PCall.mk (c1) rfl rfl ?_) | refine MCall.data (fun _ => c2) rfl rfl ?_ | refine MCall.plain (PCall.mk (c2) rfl rfl ?_) | refine MCall.data (fun _ => c3) rfl rfl ?_ | refine MCall.plain (PCall.mk (c3) rfl rfl ?_) | refine MCall.data (fun _ => c4) rfl rfl ?_ | refine MCall.plain (PCall.mk (c4) rfl rfl ?_) | refine MCall.data (fun _ => c5) rfl rfl ?_ | refine MCall.plain (PCall.mk (c5) rfl rfl ?_) | refine MCall.data (fun _ => c6) rfl rfl ?_ | refine MCall.plain (PCall.mk (c6) rfl rfl ?_) | refine MCall.data (fun _ => c7) rfl rfl ?_ | refine MCall.plain (PCall.mk (c7) rfl rfl ?_) | refine MCall.data (fun _ => c8) rfl rfl ?_ | refine MCall.plain (PCall.mk (c8) rfl rfl ?_) | refine MCall.data (fun _ => c9) rfl rfl ?_ | refine MCall.plain (PCall.mk (c9) rfl rfl ?_) | refine MCall.data (fun _ => d1) rfl rfl ?_ | refine MCall.plain (PCall.mk (d1) rfl rfl ?_) | refine MCall.data (fun _ => d2) rfl rfl ?_ | refine MCall.plain (PCall.mk (d2) rfl rfl ?_) | refine MCall.data (fun _ => d3) rfl rfl ?_ | refine MCall.plain (PCall.mk (d3) rfl rfl ?_) | refine MCall.data (fun _ => d4) rfl rfl ?_ | refine MCall.plain (PCall.mk (d4) rfl rfl ?_) | refine MCall.data (fun _ => d5) rfl rfl ?_ | refine MCall.plain (PCall.mk (d5) rfl rfl ?_) | refine MCall.data (fun _ => d6) rfl rfl ?_ | refine MCall.plain (PCall.mk (d6) rfl rfl ?_) | refine MCall.data (fun _ => hw) rfl rfl ?_ | refine MCall.plain (PCall.mk (hw) rfl rfl ?_)) | ((with_reducible refine ECall.mark ?_); first | refine ECall.only ?_ (fun h => nomatch h) | refine ECall.only ?_ ?_) | ((with_reducible refine Drawn.mark ?_); first | refine Drawn.quiet (by kernel_rfl) ?_) | refine dcell_ok rfl ?_ | refine AppC.new ?_))
      all_goals try first | ((with_reducible show Option.isSome (slElem _ _) = true); kernel_rfl) | ((with_reducible show slElem _ _ = some _); kernel_rfl) | ((with_reducible refine enters_mark ?_); kernel_rfl) | (with_reducible assumption) | ((with_reducible show List.all _ DV.one = true); rfl) | ((with_reducible show (_ : Nat) = _); rfl) | ((with_reducible show (_ == true) = true); first | (simp; done) | simpa using h) | ((with_reducible show (_ : Nat) ≤ _); exact Nat.le_of_ble_eq_true rfl) | ((with_reducible show (_ : Int) ≤ _); first | omega | decide) | ((with_reducible show (_ : Int) < _); first | omega | decide) | ((with_reducible show (_ : Nat) < _); omega) | ((with_reducible show (_ : Nat) ≤ _); omega)
      all_goals try (first | ((with_reducible show (_ : Nat) < List.length [_, _]); exact lt2' _ _ (by decide)) | ((with_reducible show (_ == false) = true); rfl))
      all_goals (conv => whnf)
      all_goals exact Tells.mk (DW.same _ rfl)
    · rw [eq_false_of_ne_true h2] at f2
      rw [h1] at f1
      refine DFun.data (DFun.body Tryz.func5 rfl (by kernel_rfl) ?_)
      repeat' (first | with_reducible rfl | ((conv => whnf); first | refine And.intro ?_ ?_ | (intro h; first | with_reducible exact tf_no h | with_reducible exact ft_no h | exact Bool.noConfusion h | with_reducible exact h | (have ht : true = true := h; clear ht h) | skip) | ((with_reducible refine SCall.mark ?_); first | refine SCall.data (f1) rfl rfl ?_ | refine SCall.scal (f1) rfl rfl ?_ | refine SCall.data (f2) rfl rfl ?_ | refine SCall.scal (f2) rfl rfl ?_ | refine SCall.data (hw) rfl rfl ?_ | refine SCall.scal (hw) rfl rfl ?_) | ((with_reducible refine PCall.mark ?_); first | refine PCall.mk (f1) rfl rfl ?_ | refine PCall.mk (f2) rfl rfl ?_ | refine PCall.mk (hw) rfl rfl ?_) | ((with_reducible refine GCall.mark ?_); first | refine GCall.data (fun _ => f1) rfl rfl ?_ | refine GCall.scal (fun _ => f1) rfl rfl ?_ | refine GCall.data (fun _ => f2) rfl rfl ?_ | refine GCall.scal (fun _ => f2) rfl rfl ?_ | refine GCall.data (fun _ => hw) rfl rfl ?_ | refine GCall.scal (fun _ => hw) rfl rfl ?_) | ((with_reducible refine MCall.mark ?_); first | refine MCall.data (fun _ => f1) rfl rfl ?_ | refine MCall.plain (PCall.mk (f1) rfl rfl ?_) | refine MCall.data (fun _ => f2) rfl rfl ?_ | refine MCall.plain (PCall.mk (f2) rfl rfl ?_) | refine MCall.data (fun _ => hw) rfl rfl ?_ | refine MCall.plain (PCall.mk (hw) rfl rfl ?_)) | ((with_reducible refine ECall.mark ?_); first | refine ECall.only ?_ (fun h => nomatch h) | refine ECall.only ?_ ?_) | ((with_reducible refine Drawn.mark ?_); first | refine Drawn.quiet (by kernel_rfl) ?_) | refine dcell_ok rfl ?_ | refine AppC.new ?_))
      all_goals try first | ((with_reducible show Option.isSome (slElem _ _) = true); kernel_rfl) | ((with_reducible show slElem _ _ = some _); kernel_rfl) | ((with_reducible refine enters_mark ?_); kernel_rfl) | (with_reducible assumption) | ((with_reducible show List.all _ DV.one = true); rfl) | ((with_reducible show (_ : Nat) = _); rfl) | ((with_reducible show (_ == true) = true); first | (simp; done) | simpa using h) | ((with_reducible show (_ : Nat) ≤ _); exact Nat.le_of_ble_eq_true rfl) | ((with_reducible show (_ : Int) ≤ _); first | omega | decide) | ((with_reducible show (_ : Int) < _); first | omega | decide) | ((with_reducible show (_ : Nat) < _); omega) | ((with_reducible show (_ : Nat) ≤ _); omega)
      all_goals try ((with_reducible show (_ == false) = true); rfl)
      all_goals (conv => whnf)
      all_goals exact Tells.mk (DW.same _ rfl)
  · rw [eq_false_of_ne_true h1] at f1
    refine DFun.data (DFun.body Tryz.func5 rfl (by kernel_rfl) ?_)
    repeat' (first | with_reducible rfl | ((conv => whnf); first | refine And.intro ?_ ?_ | (intro h; first | with_reducible exact tf_no h | with_reducible exact ft_no h | exact Bool.noConfusion h | with_reducible exact h | (have ht : true = true := h; clear ht h) | skip) | ((with_reducible refine SCall.mark ?_); first | refine SCall.data (f1) rfl rfl ?_ | refine SCall.scal (f1) rfl rfl ?_ | refine SCall.data (f2) rfl rfl ?_ | refine SCall.scal (f2) rfl rfl ?_ | refine SCall.data (hw) rfl rfl ?_ | refine SCall.scal (hw) rfl rfl ?_) | ((with_reducible refine PCall.mark ?_); first | refine PCall.mk (f1) rfl rfl ?_ | refine PCall.mk (f2) rfl rfl ?_ | refine PCall.mk (hw) rfl rfl ?_) | ((with_reducible refine GCall.mark ?_); first | refine GCall.data (fun _ => f1) rfl rfl ?_ | refine GCall.scal (fun _ => f1) rfl rfl ?_ | refine GCall.data (fun _ => f2) rfl rfl ?_ | refine GCall.scal (fun _ => f2) rfl rfl ?_ | refine GCall.data (fun _ => hw) rfl rfl ?_ | refine GCall.scal (fun _ => hw) rfl rfl ?_) | ((with_reducible refine MCall.mark ?_); first | refine MCall.data (fun _ => f1) rfl rfl ?_ | refine MCall.plain (PCall.mk (f1) rfl rfl ?_) | refine MCall.data (fun _ => f2) rfl rfl ?_ | refine MCall.plain (PCall.mk (f2) rfl rfl ?_) | refine MCall.data (fun _ => hw) rfl rfl ?_ | refine MCall.plain (PCall.mk (hw) rfl rfl ?_)) | ((with_reducible refine ECall.mark ?_); first | refine ECall.only ?_ (fun h => nomatch h) | refine ECall.only ?_ ?_) | ((with_reducible refine Drawn.mark ?_); first | refine Drawn.quiet (by kernel_rfl) ?_) | refine dcell_ok rfl ?_ | refine AppC.new ?_))
    all_goals try first | ((with_reducible show Option.isSome (slElem _ _) = true); kernel_rfl) | ((with_reducible show slElem _ _ = some _); kernel_rfl) | ((with_reducible refine enters_mark ?_); kernel_rfl) | (with_reducible assumption) | ((with_reducible show List.all _ DV.one = true); rfl) | ((with_reducible show (_ : Nat) = _); rfl) | ((with_reducible show (_ == true) = true); first | (simp; done) | simpa using h) | ((with_reducible show (_ : Nat) ≤ _); exact Nat.le_of_ble_eq_true rfl) | ((with_reducible show (_ : Int) ≤ _); first | omega | decide) | ((with_reducible show (_ : Int) < _); first | omega | decide) | ((with_reducible show (_ : Nat) < _); omega) | ((with_reducible show (_ : Nat) ≤ _); omega)
    all_goals try ((with_reducible show (_ == false) = true); rfl)
    all_goals (conv => whnf)
    all_goals exact Tells.mk (DW.same _ rfl)
end Go.Proofs.YtagfmppjlfhmeaaGreatDoor


