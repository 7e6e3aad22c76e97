/- The law of changes joined. -/
import Derived.Test.YtagfmppjlfhmeaaGreatDoorPkG
import Derived.Test.YtagfmppjlfhmeaaGreatDoorPkJ
import Derived.Test.YtagfmppjlfhmeaaGreatDoorPkI

namespace Go.Proofs.YtagfmppjlfhmeaaGreatDoor
open Go.RowKit Go.Dl
attribute [local irreducible] Tri SCall TSem ECall Drawn DFun QSem PSem PCall GCall MCall Round Weak dloadE OW DWl Tells IntKind.wrap Retold ESem
theorem pr_eq {α β : Type} {q : α × β} {b : β} (h : q.2 = b) : q = (q.1, b) := by cases q; cases h; rfl
theorem nz_t {e : Int} (h : e ≠ 0) : (e != 0) = true := bne_iff_ne.2 h
theorem nz_eq {e : Int} (h : e ≠ 0) : (e == 0) = false := beq_eq_false_iff_ne.2 h
set_option maxRecDepth 100000 in
set_option maxHeartbeats 2000000 in
theorem joins6_no (c d g : List Ch) (l : List Lf) (hc : SmC c) (hd : SmC d) (hg : SmC g) (hl : SmL l) (hn : c.length + d.length + g.length + l.length ≤ 1048576) (hw : DPure Tryz.prog 9 [] (bl true)) (hf : ¬ (fitCB c = true ∧ fitCB d = true ∧ fitCB g = true ∧ fitLB l = true)) : DPure Tryz.prog 6 [chs c, chs d, chs g, lfs l] (bl true) := by
  have lc : c.length ≤ 4194304 := hc.1
  have ld : d.length ≤ 4194304 := hd.1
  have lg : g.length ≤ 4194304 := hg.1
  have ll : l.length ≤ 4194304 := hl.1
  have f1 := chg8_D c hc
  have f2 := chg8_D d hd
  have f3 := chg8_D g hg
  have f4 := fit7_D l hl
  by_cases h1 : fitCB c = true
  · rw [h1] at f1
    by_cases h2 : fitCB d = true
    · rw [h2] at f2
      by_cases h3 : fitCB g = true
      · rw [h3] at f3
        have h4 : fitLB l = false := eq_false_of_ne_true fun k => hf ⟨h1, h2, h3, k⟩
        rw [h4] at f4
        refine DFun.data (DFun.body Tryz.func6 rfl (by kernel_rfl) ?_)
        repeat' (first | with_reducible rfl | ((conv => whnf); first | refine And.intro ?_ ?_ | (intro h; first | with_reducible exact tf_no h | with_reducible exact ft_no h | exact Bool.noConfusion h | with_reducible exact h | (have ht : true = true := h; clear ht h) | skip) | ((with_reducible refine SCall.mark ?_); first | refine SCall.data (f1) rfl rfl ?_ | refine SCall.scal (f1) rfl rfl ?_ | refine SCall.data (f2) rfl rfl ?_ | refine SCall.scal (f2) rfl rfl ?_ | refine SCall.data (f3) rfl rfl ?_ | refine SCall.scal (f3) rfl rfl ?_ | refine SCall.data (f4) rfl rfl ?_ | refine SCall.scal (f4) rfl rfl ?_ | refine SCall.data (hw) rfl rfl ?_ | refine SCall.scal (hw) rfl rfl ?_) | ((with_reducible refine PCall.mark ?_); first | refine PCall.mk (f1) rfl rfl ?_ | refine PCall.mk (f2) rfl rfl ?_ | refine PCall.mk (f3) rfl rfl ?_ | refine PCall.mk (f4) rfl rfl ?_ | refine PCall.mk (hw) rfl rfl ?_) | ((with_reducible refine GCall.mark ?_); first | refine GCall.data (fun _ => f1) rfl rfl ?_ | refine GCall.scal (fun _ => f1) rfl rfl ?_ | refine GCall.data (fun _ => f2) rfl rfl ?_ | refine GCall.scal (fun _ => f2) rfl rfl ?_ | refine GCall.data (fun _ => f3) rfl rfl ?_ | refine GCall.scal (fun _ => f3) rfl rfl ?_ | refine GCall.data (fun _ => f4) rfl rfl ?_ | refine GCall.scal (fun _ => f4) rfl rfl ?_ | refine GCall.data (fun _ => hw) rfl rfl ?_ | refine GCall.scal (fun _ => hw) rfl rfl ?_) | ((with_reducible refine MCall.mark ?_); first | refine MCall.data (fun _ => f1) rfl rfl ?_ | refine MCall.plain (PCall.mk (f1) rfl rfl ?_) | refine MCall.data (fun _ => f2) rfl rfl ?_ | refine MCall.plain (PCall.mk (f2) rfl rfl ?_) | refine MCall.data (fun _ => f3) rfl rfl ?_ | refine MCall.plain (PCall.mk (f3) rfl rfl ?_) | refine MCall.data (fun _ => f4) rfl rfl ?_ | refine MCall.plain (PCall.mk (f4) rfl rfl ?_) | refine MCall.data (fun _ => hw) rfl rfl ?_ | refine MCall.plain (PCall.mk (hw) rfl rfl ?_)) | ((with_reducible refine ECall.mark ?_); first | refine ECall.only ?_ (fun h => nomatch h) | refine ECall.only ?_ ?_) | ((with_reducible refine Drawn.mark ?_); first | refine Drawn.quiet (by kernel_rfl) ?_) | refine dcell_ok rfl ?_ | refine AppC.new ?_))
        all_goals try first | ((with_reducible show Option.isSome (slElem _ _) = true); kernel_rfl) | ((with_reducible show slElem _ _ = some _); kernel_rfl) | ((with_reducible refine enters_mark ?_); kernel_rfl) | (with_reducible assumption) | ((with_reducible show List.all _ DV.one = true); rfl) | ((with_reducible show (_ : Nat) = _); rfl) | ((with_reducible show (_ == true) = true); first | (simp; done) | simpa using h) | ((with_reducible show (_ : Nat) ≤ _); exact Nat.le_of_ble_eq_true rfl) | ((with_reducible show (_ : Int) ≤ _); first | omega | decide) | ((with_reducible show (_ : Int) < _); first | omega | decide) | ((with_reducible show (_ : Nat) < _); omega) | ((with_reducible show (_ : Nat) ≤ _); omega)
        all_goals try (first | ((with_reducible show (_ : Nat) < List.length [_, _]); exact lt2' _ _ (by decide)) | ((with_reducible show (_ == false) = true); rfl) | (with_reducible exact tnb h) | (with_reducible exact gdd h))
        all_goals (conv => whnf)
        all_goals exact Tells.mk (DW.same _ rfl)
      · rw [eq_false_of_ne_true h3] at f3
        refine DFun.data (DFun.body Tryz.func6 rfl (by kernel_rfl) ?_)
        repeat' (first | with_reducible rfl | ((conv => whnf); first | refine And.intro ?_ ?_ | (intro h; first | with_reducible exact tf_no h | with_reducible exact ft_no h | exact Bool.noConfusion h | with_reducible exact h | (have ht : true = true := h; clear ht h) | skip) | ((with_reducible refine SCall.mark ?_); first | refine SCall.data (f1) rfl rfl ?_ | refine SCall.scal (f1) rfl rfl ?_ | refine SCall.data (f2) rfl rfl ?_ | refine SCall.scal (f2) rfl rfl ?_ | refine SCall.data (f3) rfl rfl ?_ | refine SCall.scal (f3) rfl rfl ?_ | refine SCall.data (f4) rfl rfl ?_ | refine SCall.scal (f4) rfl rfl ?_ | refine SCall.data (hw) rfl rfl ?_ | refine SCall.scal (hw) rfl rfl ?_) | ((with_reducible refine PCall.mark ?_); first | refine PCall.mk (f1) rfl rfl ?_ | refine PCall.mk (f2) rfl rfl ?_ | refine PCall.mk (f3) rfl rfl ?_ | refine PCall.mk (f4) rfl rfl ?_ | refine PCall.mk (hw) rfl rfl ?_) | ((with_reducible refine GCall.mark ?_); first | refine GCall.data (fun _ => f1) rfl rfl ?_ | refine GCall.scal (fun _ => f1) rfl rfl ?_ | refine GCall.data (fun _ => f2) rfl rfl ?_ | refine GCall.scal (fun _ => f2) rfl rfl ?_ | refine GCall.data (fun _ => f3) rfl rfl ?_ | refine GCall.scal (fun _ => f3) rfl rfl ?_ | refine GCall.data (fun _ => f4) rfl rfl ?_ | refine GCall.scal (fun _ => f4) rfl rfl ?_ | refine GCall.data (fun _ => hw) rfl rfl ?_ | refine GCall.scal (fun _ => hw) rfl rfl ?_) | ((with_reducible refine MCall.mark ?_); first | refine MCall.data (fun _ => f1) rfl rfl ?_ | refine MCall.plain (PCall.mk (f1) rfl rfl ?_) | refine MCall.data (fun _ => f2) rfl rfl ?_ | refine MCall.plain (PCall.mk (f2) rfl rfl ?_) | refine MCall.data (fun _ => f3) rfl rfl ?_ | refine MCall.plain (PCall.mk (f3) rfl rfl ?_) | refine MCall.data (fun _ => f4) rfl rfl ?_ | refine MCall.plain (PCall.mk (f4) rfl rfl ?_) | refine MCall.data (fun _ => hw) rfl rfl ?_ | refine MCall.plain (PCall.mk (hw) rfl rfl ?_)) | ((with_reducible refine ECall.mark ?_); first | refine ECall.only ?_ (fun h => nomatch h) | refine ECall.only ?_ ?_) | ((with_reducible refine Drawn.mark ?_); first | refine Drawn.quiet (by kernel_rfl) ?_) | refine dcell_ok rfl ?_ | refine AppC.new ?_))
        all_goals try first | ((with_reducible show Option.isSome (slElem _ _) = true); kernel_rfl) | ((with_reducible show slElem _ _ = some _); kernel_rfl) | ((with_reducible refine enters_mark ?_); kernel_rfl) | (with_reducible assumption) | ((with_reducible show List.all _ DV.one = true); rfl) | ((with_reducible show (_ : Nat) = _); rfl) | ((with_reducible show (_ == true) = true); first | (simp; done) | simpa using h) | ((with_reducible show (_ : Nat) ≤ _); exact Nat.le_of_ble_eq_true rfl) | ((with_reducible show (_ : Int) ≤ _); first | omega | decide) | ((with_reducible show (_ : Int) < _); first | omega | decide) | ((with_reducible show (_ : Nat) < _); omega) | ((with_reducible show (_ : Nat) ≤ _); omega)
        all_goals try (first | ((with_reducible show (_ : Nat) < List.length [_, _]); exact lt2' _ _ (by decide)) | ((with_reducible show (_ == false) = true); rfl) | (with_reducible exact tnb h) | (with_reducible exact gdd h))
        all_goals (conv => whnf)
        all_goals exact Tells.mk (DW.same _ rfl)
    · rw [eq_false_of_ne_true h2] at f2
      refine DFun.data (DFun.body Tryz.func6 rfl (by kernel_rfl) ?_)
      repeat' (first | with_reducible rfl | ((conv => whnf); first | refine And.intro ?_ ?_ | (intro h; first | with_reducible exact tf_no h | with_reducible exact ft_no h | exact Bool.noConfusion h | with_reducible exact h | (have ht : true = true := h; clear ht h) | skip) | ((with_reducible refine SCall.mark ?_); first | refine SCall.data (f1) rfl rfl ?_ | refine SCall.scal (f1) rfl rfl ?_ | refine SCall.data (f2) rfl rfl ?_ | refine SCall.scal (f2) rfl rfl ?_ | refine SCall.data (f3) rfl rfl ?_ | refine SCall.scal (f3) rfl rfl ?_ | refine SCall.data (f4) rfl rfl ?_ | refine SCall.scal (f4) rfl rfl ?_ | refine SCall.data (hw) rfl rfl ?_ | refine SCall.scal (hw) rfl rfl ?_) | ((with_reducible refine PCall.mark ?_); first | refine PCall.mk (f1) rfl rfl ?_ | refine PCall.mk (f2) rfl rfl ?_ | refine PCall.mk (f3) rfl rfl ?_ | refine PCall.mk (f4) rfl rfl ?_ | refine PCall.mk (hw) rfl rfl ?_) | ((with_reducible refine GCall.mark ?_); first | refine GCall.data (fun _ => f1) rfl rfl ?_ | refine GCall.scal (fun _ => f1) rfl rfl ?_ | refine GCall.data (fun _ => f2) rfl rfl ?_ | refine GCall.scal (fun _ => f2) rfl rfl ?_ | refine GCall.data (fun _ => f3) rfl rfl ?_ | refine GCall.scal (fun _ => f3) rfl rfl ?_ | refine GCall.data (fun _ => f4) rfl rfl ?_ | refine GCall.scal (fun _ => f4) rfl rfl ?_ | refine GCall.data (fun _ => hw) rfl rfl ?_ | refine GCall.scal (fun _ => hw) rfl rfl ?_) | ((with_reducible refine MCall.mark ?_); first | refine MCall.data (fun _ => f1) rfl rfl ?_ | refine MCall.plain (PCall.mk (f1) rfl rfl ?_) | refine MCall.data (fun _ => f2) rfl rfl ?_ | refine MCall.plain (PCall.mk (f2) rfl rfl ?_) | refine MCall.data (fun _ => f3) rfl rfl ?_ | refine MCall.plain (PCall.mk (f3) rfl rfl ?_) | refine MCall.data (fun _ => f4) rfl rfl ?_ | refine MCall.plain (PCall.mk (f4) rfl rfl ?_) | refine MCall.data (fun _ => hw) rfl rfl ?_ | refine MCall.plain (PCall.mk (hw) rfl rfl ?_)) | ((with_reducible refine ECall.mark ?_); first | refine ECall.only ?_ (fun h => nomatch h) | refine ECall.only ?_ ?_) | ((with_reducible refine Drawn.mark ?_); first | refine Drawn.quiet (by kernel_rfl) ?_) | refine dcell_ok rfl ?_ | refine AppC.new ?_))
      all_goals try first | ((with_reducible show Option.isSome (slElem _ _) = true); kernel_rfl) | ((with_reducible show slElem _ _ = some _); kernel_rfl) | ((with_reducible refine enters_mark ?_); kernel_rfl) | (with_reducible assumption) | ((with_reducible show List.all _ DV.one = true); rfl) | ((with_reducible show (_ : Nat) = _); rfl) | ((with_reducible show (_ == true) = true); first | (simp; done) | simpa using h) | ((with_reducible show (_ : Nat) ≤ _); exact Nat.le_of_ble_eq_true rfl) | ((with_reducible show (_ : Int) ≤ _); first | omega | decide) | ((with_reducible show (_ : Int) < _); first | omega | decide) | ((with_reducible show (_ : Nat) < _); omega) | ((with_reducible show (_ : Nat) ≤ _); omega)
      all_goals try (first | ((with_reducible show (_ : Nat) < List.length [_, _]); exact lt2' _ _ (by decide)) | ((with_reducible show (_ == false) = true); rfl) | (with_reducible exact tnb h) | (with_reducible exact gdd h))
      all_goals (conv => whnf)
      all_goals exact Tells.mk (DW.same _ rfl)
  · rw [eq_false_of_ne_true h1] at f1
    refine DFun.data (DFun.body Tryz.func6 rfl (by kernel_rfl) ?_)
    repeat' (first | with_reducible rfl | ((conv => whnf); first | refine And.intro ?_ ?_ | (intro h; first | with_reducible exact tf_no h | with_reducible exact ft_no h | exact Bool.noConfusion h | with_reducible exact h | (have ht : true = true := h; clear ht h) | skip) | ((with_reducible refine SCall.mark ?_); first | refine SCall.data (f1) rfl rfl ?_ | refine SCall.scal (f1) rfl rfl ?_ | refine SCall.data (f2) rfl rfl ?_ | refine SCall.scal (f2) rfl rfl ?_ | refine SCall.data (f3) rfl rfl ?_ | refine SCall.scal (f3) rfl rfl ?_ | refine SCall.data (f4) rfl rfl ?_ | refine SCall.scal (f4) rfl rfl ?_ | refine SCall.data (hw) rfl rfl ?_ | refine SCall.scal (hw) rfl rfl ?_) | ((with_reducible refine PCall.mark ?_); first | refine PCall.mk (f1) rfl rfl ?_ | refine PCall.mk (f2) rfl rfl ?_ | refine PCall.mk (f3) rfl rfl ?_ | refine PCall.mk (f4) rfl rfl ?_ | refine PCall.mk (hw) rfl rfl ?_) | ((with_reducible refine GCall.mark ?_); first | refine GCall.data (fun _ => f1) rfl rfl ?_ | refine GCall.scal (fun _ => f1) rfl rfl ?_ | refine GCall.data (fun _ => f2) rfl rfl ?_ | refine GCall.scal (fun _ => f2) rfl rfl ?_ | refine GCall.data (fun _ => f3) rfl rfl ?_ | refine GCall.scal (fun _ => f3) rfl rfl ?_ | refine GCall.data (fun _ => f4) rfl rfl ?_ | refine GCall.scal (fun _ => f4) rfl rfl ?_ | refine GCall.data (fun _ => hw) rfl rfl ?_ | refine GCall.scal (fun _ => hw) rfl rfl ?_) | ((with_reducible refine MCall.mark ?_); first | refine MCall.data (fun _ => f1) rfl rfl ?_ | refine MCall.plain (PCall.mk (f1) rfl rfl ?_) | refine MCall.data (fun _ => f2) rfl rfl ?_ | refine MCall.plain (PCall.mk (f2) rfl rfl ?_) | refine MCall.data (fun _ => f3) rfl rfl ?_ | refine MCall.plain (PCall.mk (f3) rfl rfl ?_) | refine MCall.data (fun _ => f4) rfl rfl ?_ | refine MCall.plain (PCall.mk (f4) rfl rfl ?_) | refine MCall.data (fun _ => hw) rfl rfl ?_ | refine MCall.plain (PCall.mk (hw) rfl rfl ?_)) | ((with_reducible refine ECall.mark ?_); first | refine ECall.only ?_ (fun h => nomatch h) | refine ECall.only ?_ ?_) | ((with_reducible refine Drawn.mark ?_); first | refine Drawn.quiet (by kernel_rfl) ?_) | refine dcell_ok rfl ?_ | refine AppC.new ?_))
    all_goals try first | ((with_reducible show Option.isSome (slElem _ _) = true); kernel_rfl) | ((with_reducible show slElem _ _ = some _); kernel_rfl) | ((with_reducible refine enters_mark ?_); kernel_rfl) | (with_reducible assumption) | ((with_reducible show List.all _ DV.one = true); rfl) | ((with_reducible show (_ : Nat) = _); rfl) | ((with_reducible show (_ == true) = true); first | (simp; done) | simpa using h) | ((with_reducible show (_ : Nat) ≤ _); exact Nat.le_of_ble_eq_true rfl) | ((with_reducible show (_ : Int) ≤ _); first | omega | decide) | ((with_reducible show (_ : Int) < _); first | omega | decide) | ((with_reducible show (_ : Nat) < _); omega) | ((with_reducible show (_ : Nat) ≤ _); omega)
    all_goals try (first | ((with_reducible show (_ : Nat) < List.length [_, _]); exact lt2' _ _ (by decide)) | ((with_reducible show (_ == false) = true); rfl) | (with_reducible exact tnb h) | (with_reducible exact gdd h))
    all_goals (conv => whnf)
    all_goals exact Tells.mk (DW.same _ rfl)
set_option maxRecDepth 100000 in
set_option maxHeartbeats 2000000 in
theorem joins6_e (c d g : List Ch) (l : List Lf) (hc : SmC c) (hd : SmC d) (hg : SmC g) (hl : SmL l) (hn : c.length + d.length + g.length + l.length ≤ 1048576) (hw : DPure Tryz.prog 9 [] (bl true)) (h1 : fitCB c = true) (h2 : fitCB d = true) (h3 : fitCB g = true) (h4 : fitLB l = true) (e : (joinT c d).2 ≠ 0) : DPure Tryz.prog 6 [chs c, chs d, chs g, lfs l] (bl true) := by
  have lc : c.length ≤ 4194304 := hc.1
  have ld : d.length ≤ 4194304 := hd.1
  have lg : g.length ≤ 4194304 := hg.1
  have ll : l.length ≤ 4194304 := hl.1
  have f1 := chg8_D c hc
  have f2 := chg8_D d hd
  have f3 := chg8_D g hg
  have f4 := fit7_D l hl
  rw [h1] at f1
  rw [h2] at f2
  rw [h3] at f3
  rw [h4] at f4
  have k1 := fitC_iff.1 h1
  have k2 := fitC_iff.1 h2
  have k3 := fitC_iff.1 h3
  have k4 := fitL_iff.1 h4
  have lx := join_len c d
  have j1 := join25_D c d lc ld
  have j2 := join26_D c d lc ld
  have s1 := same17_D (joinT c d).1 (joinT c d).1 (by omega)
  have b1 := back21_D c lc
  have j3 := join25_D c (c.map backC) lc (by rw [List.length_map]; exact lc)
  rw [join_back k1.2] at j3
  rw [decide_eq_true rfl] at s1
  have hE := nz_t e
  have hQ : ((joinT c d).2 != (joinT c d).2) = false := bne_self_eq_false _
  refine DFun.data (DFun.body Tryz.func6 rfl (by kernel_rfl) ?_)
  repeat' (first | with_reducible rfl | ((conv => whnf); first | refine And.intro ?_ ?_ | (intro h; first | with_reducible exact tf_no h | with_reducible exact ft_no h | exact Bool.noConfusion h | with_reducible exact h | (exfalso; exact bt_x hE h) | (exfalso; exact bt_x hQ h) | (have ht : true = true := h; clear ht h) | skip) | ((with_reducible refine SCall.mark ?_); first | refine SCall.data (f1) rfl rfl ?_ | refine SCall.scal (f1) rfl rfl ?_ | refine SCall.data (f2) rfl rfl ?_ | refine SCall.scal (f2) rfl rfl ?_ | refine SCall.data (f3) rfl rfl ?_ | refine SCall.scal (f3) rfl rfl ?_ | refine SCall.data (f4) rfl rfl ?_ | refine SCall.scal (f4) rfl rfl ?_ | refine SCall.data (hw) rfl rfl ?_ | refine SCall.scal (hw) rfl rfl ?_ | refine SCall.data (j1) rfl rfl ?_ | refine SCall.scal (j1) rfl rfl ?_ | refine SCall.data (j2) rfl rfl ?_ | refine SCall.scal (j2) rfl rfl ?_ | refine SCall.data (s1) rfl rfl ?_ | refine SCall.scal (s1) rfl rfl ?_ | refine SCall.data (b1) rfl rfl ?_ | refine SCall.scal (b1) rfl rfl ?_ | refine SCall.data (j3) rfl rfl ?_ | refine SCall.scal (j3) rfl rfl ?_) | ((with_reducible refine PCall.mark ?_); first | refine PCall.mk (f1) rfl rfl ?_ | refine PCall.mk (f2) rfl rfl ?_ | refine PCall.mk (f3) rfl rfl ?_ | refine PCall.mk (f4) rfl rfl ?_ | refine PCall.mk (hw) rfl rfl ?_ | refine PCall.mk (j1) rfl rfl ?_ | refine PCall.mk (j2) rfl rfl ?_ | refine PCall.mk (s1) rfl rfl ?_ | refine PCall.mk (b1) rfl rfl ?_ | refine PCall.mk (j3) rfl rfl ?_) | ((with_reducible refine GCall.mark ?_); first | refine GCall.data (fun _ => f1) rfl rfl ?_ | refine GCall.scal (fun _ => f1) rfl rfl ?_ | refine GCall.data (fun _ => f2) rfl rfl ?_ | refine GCall.scal (fun _ => f2) rfl rfl ?_ | refine GCall.data (fun _ => f3) rfl rfl ?_ | refine GCall.scal (fun _ => f3) rfl rfl ?_ | refine GCall.data (fun _ => f4) rfl rfl ?_ | refine GCall.scal (fun _ => f4) rfl rfl ?_ | refine GCall.data (fun _ => hw) rfl rfl ?_ | refine GCall.scal (fun _ => hw) rfl rfl ?_ | refine GCall.data (fun _ => j1) rfl rfl ?_ | refine GCall.scal (fun _ => j1) rfl rfl ?_ | refine GCall.data (fun _ => j2) rfl rfl ?_ | refine GCall.scal (fun _ => j2) rfl rfl ?_ | refine GCall.data (fun _ => s1) rfl rfl ?_ | refine GCall.scal (fun _ => s1) rfl rfl ?_ | refine GCall.data (fun _ => b1) rfl rfl ?_ | refine GCall.scal (fun _ => b1) rfl rfl ?_ | refine GCall.data (fun _ => j3) rfl rfl ?_ | refine GCall.scal (fun _ => j3) rfl rfl ?_) | ((with_reducible refine MCall.mark ?_); first | refine MCall.data (fun _ => f1) rfl rfl ?_ | refine MCall.plain (PCall.mk (f1) rfl rfl ?_) | refine MCall.data (fun _ => f2) rfl rfl ?_ | refine MCall.plain (PCall.mk (f2) rfl rfl ?_) | refine MCall.data (fun _ => f3) rfl rfl ?_ | refine MCall.plain (PCall.mk (f3) rfl rfl ?_) | refine MCall.data (fun _ => f4) rfl rfl ?_ | refine MCall.plain (PCall.mk (f4) rfl rfl ?_) | refine MCall.data (fun _ => hw) rfl rfl ?_ | refine MCall.plain (PCall.mk (hw) rfl rfl ?_) | refine MCall.data (fun _ => j1) rfl rfl ?_ | refine MCall.plain (PCall.mk (j1) rfl rfl ?_) | refine MCall.data (fun _ => j2) rfl rfl ?_ | refine MCall.plain (PCall.mk (j2) rfl rfl ?_) | refine MCall.data (fun _ => s1) rfl rfl ?_ | refine MCall.plain (PCall.mk (s1) rfl rfl ?_) | refine MCall.data (fun _ => b1) rfl rfl ?_ | refine MCall.plain (PCall.mk (b1) rfl rfl ?_) | refine MCall.data (fun _ => j3) rfl rfl ?_ | refine MCall.plain (PCall.mk (j3) rfl rfl ?_)) | ((with_reducible refine ECall.mark ?_); first | refine ECall.only ?_ (fun h => nomatch h) | refine ECall.only ?_ ?_) | ((with_reducible refine Drawn.mark ?_); first | refine Drawn.quiet (by kernel_rfl) ?_) | refine dcell_ok rfl ?_ | refine AppC.new ?_))
  all_goals try first | ((with_reducible show Option.isSome (slElem _ _) = true); kernel_rfl) | ((with_reducible show slElem _ _ = some _); kernel_rfl) | ((with_reducible refine enters_mark ?_); kernel_rfl) | (with_reducible assumption) | ((with_reducible show List.all _ DV.one = true); rfl) | ((with_reducible show (_ : Nat) = _); rfl) | ((with_reducible show (_ == true) = true); first | (simp; done) | simpa using h) | ((with_reducible show (_ : Nat) ≤ _); exact Nat.le_of_ble_eq_true rfl) | ((with_reducible show (_ : Int) ≤ _); first | omega | decide) | ((with_reducible show (_ : Int) < _); first | omega | decide) | ((with_reducible show (_ : Nat) < _); omega) | ((with_reducible show (_ : Nat) ≤ _); omega)
  all_goals try (first | ((with_reducible show (_ : Nat) < List.length [_, _]); exact lt2' _ _ (by decide)) | ((with_reducible show (_ == false) = true); rfl) | (with_reducible exact tnb h) | (with_reducible exact gdd h))
  all_goals (conv => whnf)
  all_goals exact Tells.mk (DW.same _ rfl)
set_option maxRecDepth 100000 in
set_option maxHeartbeats 2000000 in
theorem joins6_y0 (c d g : List Ch) (l : List Lf) (hc : SmC c) (hd : SmC d) (hg : SmC g) (hl : SmL l) (hn : c.length + d.length + g.length + l.length ≤ 1048576) (hw : DPure Tryz.prog 9 [] (bl true)) (h1 : fitCB c = true) (h2 : fitCB d = true) (h3 : fitCB g = true) (h4 : fitLB l = true) (e : (joinT c d).2 = 0) (m : (joinT (joinT c d).1 g).2 = 0) (n : (joinT d g).2 = 0) (p : (appT l c).2 ≠ 0) : DPure Tryz.prog 6 [chs c, chs d, chs g, lfs l] (bl true) := by
  have lc : c.length ≤ 4194304 := hc.1
  have ld : d.length ≤ 4194304 := hd.1
  have lg : g.length ≤ 4194304 := hg.1
  have ll : l.length ≤ 4194304 := hl.1
  have f1 := chg8_D c hc
  have f2 := chg8_D d hd
  have f3 := chg8_D g hg
  have f4 := fit7_D l hl
  rw [h1] at f1
  rw [h2] at f2
  rw [h3] at f3
  rw [h4] at f4
  have k1 := fitC_iff.1 h1
  have k2 := fitC_iff.1 h2
  have k3 := fitC_iff.1 h3
  have k4 := fitL_iff.1 h4
  have lx := join_len c d
  have j1 := join25_D c d lc ld
  have j2 := join26_D c d lc ld
  have s1 := same17_D (joinT c d).1 (joinT c d).1 (by omega)
  have b1 := back21_D c lc
  have j3 := join25_D c (c.map backC) lc (by rw [List.length_map]; exact lc)
  rw [join_back k1.2] at j3
  rw [decide_eq_true rfl] at s1
  have kx := join_fit k1 k2 e
  rw [pr_eq e] at j1 j2
  have x1 := chg24_D (joinT c d).1 (smc_fit kx (by omega))
  rw [fitC_iff.2 kx] at x1
  have lp := join_len (joinT c d).1 g
  have lq := join_len d g
  have j4 := join25_D (joinT c d).1 g (by omega) lg
  have j5 := join25_D d g ld lg
  have la := app_len l c
  have lb := app_len (appT l c).1 d
  have a1 := apply11_D l c ll lc
  have j6 := join25_D c (joinT d g).1 lc (by omega)
  rw [join_grp k1 k2 k3 e m n] at j6
  rw [pr_eq m] at j4
  rw [pr_eq n] at j5
  have s2 := same17_D (joinT (joinT c d).1 g).1 (joinT (joinT c d).1 g).1 (by omega)
  rw [decide_eq_true rfl] at s2
  have hA := nz_t p
  refine DFun.data (DFun.body Tryz.func6 rfl (by kernel_rfl) ?_)
  repeat' (first | with_reducible rfl | ((conv => whnf); first | refine And.intro ?_ ?_ | (intro h; first | with_reducible exact tf_no h | with_reducible exact ft_no h | exact Bool.noConfusion h | with_reducible exact h | (exfalso; exact bt_x hA h) | (have ht : true = true := h; clear ht h) | skip) | ((with_reducible refine SCall.mark ?_); first | refine SCall.data (f1) rfl rfl ?_ | refine SCall.scal (f1) rfl rfl ?_ | refine SCall.data (f2) rfl rfl ?_ | refine SCall.scal (f2) rfl rfl ?_ | refine SCall.data (f3) rfl rfl ?_ | refine SCall.scal (f3) rfl rfl ?_ | refine SCall.data (f4) rfl rfl ?_ | refine SCall.scal (f4) rfl rfl ?_ | refine SCall.data (hw) rfl rfl ?_ | refine SCall.scal (hw) rfl rfl ?_ | refine SCall.data (j1) rfl rfl ?_ | refine SCall.scal (j1) rfl rfl ?_ | refine SCall.data (j2) rfl rfl ?_ | refine SCall.scal (j2) rfl rfl ?_ | refine SCall.data (s1) rfl rfl ?_ | refine SCall.scal (s1) rfl rfl ?_ | refine SCall.data (b1) rfl rfl ?_ | refine SCall.scal (b1) rfl rfl ?_ | refine SCall.data (j3) rfl rfl ?_ | refine SCall.scal (j3) rfl rfl ?_ | refine SCall.data (x1) rfl rfl ?_ | refine SCall.scal (x1) rfl rfl ?_ | refine SCall.data (j4) rfl rfl ?_ | refine SCall.scal (j4) rfl rfl ?_ | refine SCall.data (j5) rfl rfl ?_ | refine SCall.scal (j5) rfl rfl ?_ | refine SCall.data (j6) rfl rfl ?_ | refine SCall.scal (j6) rfl rfl ?_ | refine SCall.data (s2) rfl rfl ?_ | refine SCall.scal (s2) rfl rfl ?_ | refine SCall.data (a1) rfl rfl ?_ | refine SCall.scal (a1) rfl rfl ?_) | ((with_reducible refine PCall.mark ?_); first | refine PCall.mk (f1) rfl rfl ?_ | refine PCall.mk (f2) rfl rfl ?_ | refine PCall.mk (f3) rfl rfl ?_ | refine PCall.mk (f4) rfl rfl ?_ | refine PCall.mk (hw) rfl rfl ?_ | refine PCall.mk (j1) rfl rfl ?_ | refine PCall.mk (j2) rfl rfl ?_ | refine PCall.mk (s1) rfl rfl ?_ | refine PCall.mk (b1) rfl rfl ?_ | refine PCall.mk (j3) rfl rfl ?_ | refine PCall.mk (x1) rfl rfl ?_ | refine PCall.mk (j4) rfl rfl ?_ | refine PCall.mk (j5) rfl rfl ?_ | refine PCall.mk (j6) rfl rfl ?_ | refine PCall.mk (s2) rfl rfl ?_ | refine PCall.mk (a1) rfl rfl ?_) | ((with_reducible refine GCall.mark ?_); first | refine GCall.data (fun _ => f1) rfl rfl ?_ | refine GCall.scal (fun _ => f1) rfl rfl ?_ | refine GCall.data (fun _ => f2) rfl rfl ?_ | refine GCall.scal (fun _ => f2) rfl rfl ?_ | refine GCall.data (fun _ => f3) rfl rfl ?_ | refine GCall.scal (fun _ => f3) rfl rfl ?_ | refine GCall.data (fun _ => f4) rfl rfl ?_ | refine GCall.scal (fun _ => f4) rfl rfl ?_ | refine GCall.data (fun _ => hw) rfl rfl ?_ | refine GCall.scal (fun _ => hw) rfl rfl ?_ | refine GCall.data (fun _ => j1) rfl rfl ?_ | refine GCall.scal (fun _ => j1) rfl rfl ?_ | refine GCall.data (fun _ => j2) rfl rfl ?_ | refine GCall.scal (fun _ => j2) rfl rfl ?_ | refine GCall.data (fun _ => s1) rfl rfl ?_ | refine GCall.scal (fun _ => s1) rfl rfl ?_ | refine GCall.data (fun _ => b1) rfl rfl ?_ | refine GCall.scal (fun _ => b1) rfl rfl ?_ | refine GCall.data (fun _ => j3) rfl rfl ?_ | refine GCall.scal (fun _ => j3) rfl rfl ?_ | refine GCall.data (fun _ => x1) rfl rfl ?_ | refine GCall.scal (fun _ => x1) rfl rfl ?_ | refine GCall.data (fun _ => j4) rfl rfl ?_ | refine GCall.scal (fun _ => j4) rfl rfl ?_ | refine GCall.data (fun _ => j5) rfl rfl ?_ | refine GCall.scal (fun _ => j5) rfl rfl ?_ | refine GCall.data (fun _ => j6) rfl rfl ?_ | refine GCall.scal (fun _ => j6) rfl rfl ?_ | refine GCall.data (fun _ => s2) rfl rfl ?_ | refine GCall.scal (fun _ => s2) rfl rfl ?_ | refine GCall.data (fun _ => a1) rfl rfl ?_ | refine GCall.scal (fun _ => a1) rfl rfl ?_) | ((with_reducible refine MCall.mark ?_); first | refine MCall.data (fun _ => f1) rfl rfl ?_ | refine MCall.plain (PCall.mk (f1) rfl rfl ?_) | refine MCall.data (fun _ => f2) rfl rfl ?_ | refine MCall.plain (PCall.mk (f2) rfl rfl ?_) | refine MCall.data (fun _ => f3) rfl rfl ?_ | refine MCall.plain (PCall.mk (f3) rfl rfl ?_) | refine MCall.data (fun _ => f4) rfl rfl ?_ | refine MCall.plain (PCall.mk (f4) rfl rfl ?_) | refine MCall.data (fun _ => hw) rfl rfl ?_ | refine MCall.plain (PCall.mk (hw) rfl rfl ?_) | refine MCall.data (fun _ => j1) rfl rfl ?_ | refine MCall.plain (PCall.mk (j1) rfl rfl ?_) | refine MCall.data (fun _ => j2) rfl rfl ?_ | refine MCall.plain (PCall.mk (j2) rfl rfl ?_) | refine MCall.data (fun _ => s1) rfl rfl ?_ | refine MCall.plain (PCall.mk (s1) rfl rfl ?_) | refine MCall.data (fun _ => b1) rfl rfl ?_ | refine MCall.plain (PCall.mk (b1) rfl rfl ?_) | refine MCall.data (fun _ => j3) rfl rfl ?_ | refine MCall.plain (PCall.mk (j3) rfl rfl ?_) | refine MCall.data (fun _ => x1) rfl rfl ?_ | refine MCall.plain (PCall.mk (x1) rfl rfl ?_) | refine MCall.data (fun _ => j4) rfl rfl ?_ | refine MCall.plain (PCall.mk (j4) rfl rfl ?_) | refine MCall.data (fun _ => j5) rfl rfl ?_ | refine MCall.plain (PCall.mk (j5) rfl rfl ?_) | refine MCall.data (fun _ => j6) rfl rfl ?_ | refine MCall.plain (PCall.mk (j6) rfl rfl ?_) | refine MCall.data (fun _ => s2) rfl rfl ?_ | refine MCall.plain (PCall.mk (s2) rfl rfl ?_) | refine MCall.data (fun _ => a1) rfl rfl ?_ | refine MCall.plain (PCall.mk (a1) rfl rfl ?_)) | ((with_reducible refine ECall.mark ?_); first | refine ECall.only ?_ (fun h => nomatch h) | refine ECall.only ?_ ?_) | ((with_reducible refine Drawn.mark ?_); first | refine Drawn.quiet (by kernel_rfl) ?_) | refine dcell_ok rfl ?_ | refine AppC.new ?_))
  all_goals try first | ((with_reducible show Option.isSome (slElem _ _) = true); kernel_rfl) | ((with_reducible show slElem _ _ = some _); kernel_rfl) | ((with_reducible refine enters_mark ?_); kernel_rfl) | (with_reducible assumption) | ((with_reducible show List.all _ DV.one = true); rfl) | ((with_reducible show (_ : Nat) = _); rfl) | ((with_reducible show (_ == true) = true); first | (simp; done) | simpa using h) | ((with_reducible show (_ : Nat) ≤ _); exact Nat.le_of_ble_eq_true rfl) | ((with_reducible show (_ : Int) ≤ _); first | omega | decide) | ((with_reducible show (_ : Int) < _); first | omega | decide) | ((with_reducible show (_ : Nat) < _); omega) | ((with_reducible show (_ : Nat) ≤ _); omega)
  all_goals try (first | ((with_reducible show (_ : Nat) < List.length [_, _]); exact lt2' _ _ (by decide)) | ((with_reducible show (_ == false) = true); rfl) | (with_reducible exact tnb h) | (with_reducible exact gdd h))
  all_goals (conv => whnf)
  all_goals exact Tells.mk (DW.same _ rfl)
set_option maxRecDepth 100000 in
set_option maxHeartbeats 2000000 in
theorem joins6_y1 (c d g : List Ch) (l : List Lf) (hc : SmC c) (hd : SmC d) (hg : SmC g) (hl : SmL l) (hn : c.length + d.length + g.length + l.length ≤ 1048576) (hw : DPure Tryz.prog 9 [] (bl true)) (h1 : fitCB c = true) (h2 : fitCB d = true) (h3 : fitCB g = true) (h4 : fitLB l = true) (e : (joinT c d).2 = 0) (m : (joinT (joinT c d).1 g).2 = 0) (n : (joinT d g).2 = 0) (p : (appT l c).2 = 0) (q : (appT (appT l c).1 d).2 ≠ 0) : DPure Tryz.prog 6 [chs c, chs d, chs g, lfs l] (bl true) := by
  have lc : c.length ≤ 4194304 := hc.1
  have ld : d.length ≤ 4194304 := hd.1
  have lg : g.length ≤ 4194304 := hg.1
  have ll : l.length ≤ 4194304 := hl.1
  have f1 := chg8_D c hc
  have f2 := chg8_D d hd
  have f3 := chg8_D g hg
  have f4 := fit7_D l hl
  rw [h1] at f1
  rw [h2] at f2
  rw [h3] at f3
  rw [h4] at f4
  have k1 := fitC_iff.1 h1
  have k2 := fitC_iff.1 h2
  have k3 := fitC_iff.1 h3
  have k4 := fitL_iff.1 h4
  have lx := join_len c d
  have j1 := join25_D c d lc ld
  have j2 := join26_D c d lc ld
  have s1 := same17_D (joinT c d).1 (joinT c d).1 (by omega)
  have b1 := back21_D c lc
  have j3 := join25_D c (c.map backC) lc (by rw [List.length_map]; exact lc)
  rw [join_back k1.2] at j3
  rw [decide_eq_true rfl] at s1
  have kx := join_fit k1 k2 e
  rw [pr_eq e] at j1 j2
  have x1 := chg24_D (joinT c d).1 (smc_fit kx (by omega))
  rw [fitC_iff.2 kx] at x1
  have lp := join_len (joinT c d).1 g
  have lq := join_len d g
  have j4 := join25_D (joinT c d).1 g (by omega) lg
  have j5 := join25_D d g ld lg
  have la := app_len l c
  have lb := app_len (appT l c).1 d
  have a1 := apply11_D l c ll lc
  have j6 := join25_D c (joinT d g).1 lc (by omega)
  rw [join_grp k1 k2 k3 e m n] at j6
  rw [pr_eq m] at j4
  rw [pr_eq n] at j5
  have s2 := same17_D (joinT (joinT c d).1 g).1 (joinT (joinT c d).1 g).1 (by omega)
  rw [decide_eq_true rfl] at s2
  rw [pr_eq p] at a1
  have a2 := apply11_D (appT l c).1 d (by omega) ld
  have hA := nz_t q
  refine DFun.data (DFun.body Tryz.func6 rfl (by kernel_rfl) ?_)
  repeat' (first | with_reducible rfl | ((conv => whnf); first | refine And.intro ?_ ?_ | (intro h; first | with_reducible exact tf_no h | with_reducible exact ft_no h | exact Bool.noConfusion h | with_reducible exact h | (exfalso; exact bt_x hA h) | (have ht : true = true := h; clear ht h) | skip) | ((with_reducible refine SCall.mark ?_); first | refine SCall.data (f1) rfl rfl ?_ | refine SCall.scal (f1) rfl rfl ?_ | refine SCall.data (f2) rfl rfl ?_ | refine SCall.scal (f2) rfl rfl ?_ | refine SCall.data (f3) rfl rfl ?_ | refine SCall.scal (f3) rfl rfl ?_ | refine SCall.data (f4) rfl rfl ?_ | refine SCall.scal (f4) rfl rfl ?_ | refine SCall.data (hw) rfl rfl ?_ | refine SCall.scal (hw) rfl rfl ?_ | refine SCall.data (j1) rfl rfl ?_ | refine SCall.scal (j1) rfl rfl ?_ | refine SCall.data (j2) rfl rfl ?_ | refine SCall.scal (j2) rfl rfl ?_ | refine SCall.data (s1) rfl rfl ?_ | refine SCall.scal (s1) rfl rfl ?_ | refine SCall.data (b1) rfl rfl ?_ | refine SCall.scal (b1) rfl rfl ?_ | refine SCall.data (j3) rfl rfl ?_ | refine SCall.scal (j3) rfl rfl ?_ | refine SCall.data (x1) rfl rfl ?_ | refine SCall.scal (x1) rfl rfl ?_ | refine SCall.data (j4) rfl rfl ?_ | refine SCall.scal (j4) rfl rfl ?_ | refine SCall.data (j5) rfl rfl ?_ | refine SCall.scal (j5) rfl rfl ?_ | refine SCall.data (j6) rfl rfl ?_ | refine SCall.scal (j6) rfl rfl ?_ | refine SCall.data (s2) rfl rfl ?_ | refine SCall.scal (s2) rfl rfl ?_ | refine SCall.data (a1) rfl rfl ?_ | refine SCall.scal (a1) rfl rfl ?_ | refine SCall.data (a2) rfl rfl ?_ | refine SCall.scal (a2) rfl rfl ?_) | ((with_reducible refine PCall.mark ?_); first | refine PCall.mk (f1) rfl rfl ?_ | refine PCall.mk (f2) rfl rfl ?_ | refine PCall.mk (f3) rfl rfl ?_ | refine PCall.mk (f4) rfl rfl ?_ | refine PCall.mk (hw) rfl rfl ?_ | refine PCall.mk (j1) rfl rfl ?_ | refine PCall.mk (j2) rfl rfl ?_ | refine PCall.mk (s1) rfl rfl ?_ | refine PCall.mk (b1) rfl rfl ?_ | refine PCall.mk (j3) rfl rfl ?_ | refine PCall.mk (x1) rfl rfl ?_ | refine PCall.mk (j4) rfl rfl ?_ | refine PCall.mk (j5) rfl rfl ?_ | refine PCall.mk (j6) rfl rfl ?_ | refine PCall.mk (s2) rfl rfl ?_ | refine PCall.mk (a1) rfl rfl ?_ | refine PCall.mk (a2) rfl rfl ?_) | ((with_reducible refine GCall.mark ?_); first | refine GCall.data (fun _ => f1) rfl rfl ?_ | refine GCall.scal (fun _ => f1) rfl rfl ?_ | refine GCall.data (fun _ => f2) rfl rfl ?_ | refine GCall.scal (fun _ => f2) rfl rfl ?_ | refine GCall.data (fun _ => f3) rfl rfl ?_ | refine GCall.scal (fun _ => f3) rfl rfl ?_ | refine GCall.data (fun _ => f4) rfl rfl ?_ | refine GCall.scal (fun _ => f4) rfl rfl ?_ | refine GCall.data (fun _ => hw) rfl rfl ?_ | refine GCall.scal (fun _ => hw) rfl rfl ?_ | refine GCall.data (fun _ => j1) rfl rfl ?_ | refine GCall.scal (fun _ => j1) rfl rfl ?_ | refine GCall.data (fun _ => j2) rfl rfl ?_ | refine GCall.scal (fun _ => j2) rfl rfl ?_ | refine GCall.data (fun _ => s1) rfl rfl ?_ | refine GCall.scal (fun _ => s1) rfl rfl ?_ | refine GCall.data (fun _ => b1) rfl rfl ?_ | refine GCall.scal (fun _ => b1) rfl rfl ?_ | refine GCall.data (fun _ => j3) rfl rfl ?_ | refine GCall.scal (fun _ => j3) rfl rfl ?_ | refine GCall.data (fun _ => x1) rfl rfl ?_ | refine GCall.scal (fun _ => x1) rfl rfl ?_ | refine GCall.data (fun _ => j4) rfl rfl ?_ | refine GCall.scal (fun _ => j4) rfl rfl ?_ | refine GCall.data (fun _ => j5) rfl rfl ?_ | refine GCall.scal (fun _ => j5) rfl rfl ?_ | refine GCall.data (fun _ => j6) rfl rfl ?_ | refine GCall.scal (fun _ => j6) rfl rfl ?_ | refine GCall.data (fun _ => s2) rfl rfl ?_ | refine GCall.scal (fun _ => s2) rfl rfl ?_ | refine GCall.data (fun _ => a1) rfl rfl ?_ | refine GCall.scal (fun _ => a1) rfl rfl ?_ | refine GCall.data (fun _ => a2) rfl rfl ?_ | refine GCall.scal (fun _ => a2) rfl rfl ?_) | ((with_reducible refine MCall.mark ?_); first | refine MCall.data (fun _ => f1) rfl rfl ?_ | refine MCall.plain (PCall.mk (f1) rfl rfl ?_) | refine MCall.data (fun _ => f2) rfl rfl ?_ | refine MCall.plain (PCall.mk (f2) rfl rfl ?_) | refine MCall.data (fun _ => f3) rfl rfl ?_ | refine MCall.plain (PCall.mk (f3) rfl rfl ?_) | refine MCall.data (fun _ => f4) rfl rfl ?_ | refine MCall.plain (PCall.mk (f4) rfl rfl ?_) | refine MCall.data (fun _ => hw) rfl rfl ?_ | refine MCall.plain (PCall.mk (hw) rfl rfl ?_) | refine MCall.data (fun _ => j1) rfl rfl ?_ | refine MCall.plain (PCall.mk (j1) rfl rfl ?_) | refine MCall.data (fun _ => j2) rfl rfl ?_ | refine MCall.plain (PCall.mk (j2) rfl rfl ?_) | refine MCall.data (fun _ => s1) rfl rfl ?_ | refine MCall.plain (PCall.mk (s1) rfl rfl ?_) | refine MCall.data (fun _ => b1) rfl rfl ?_ | refine MCall.plain (PCall.mk (b1) rfl rfl ?_) | refine MCall.data (fun _ => j3) rfl rfl ?_ | refine MCall.plain (PCall.mk (j3) rfl rfl ?_) | refine MCall.data (fun _ => x1) rfl rfl ?_ | refine MCall.plain (PCall.mk (x1) rfl rfl ?_) | refine MCall.data (fun _ => j4) rfl rfl ?_ | refine MCall.plain (PCall.mk (j4) rfl rfl ?_) | refine MCall.data (fun _ => j5) rfl rfl ?_ | refine MCall.plain (PCall.mk (j5) rfl rfl ?_) | refine MCall.data (fun _ => j6) rfl rfl ?_ | refine MCall.plain (PCall.mk (j6) rfl rfl ?_) | refine MCall.data (fun _ => s2) rfl rfl ?_ | refine MCall.plain (PCall.mk (s2) rfl rfl ?_) | refine MCall.data (fun _ => a1) rfl rfl ?_ | refine MCall.plain (PCall.mk (a1) rfl rfl ?_) | refine MCall.data (fun _ => a2) rfl rfl ?_ | refine MCall.plain (PCall.mk (a2) rfl rfl ?_)) | ((with_reducible refine ECall.mark ?_); first | refine ECall.only ?_ (fun h => nomatch h) | refine ECall.only ?_ ?_) | ((with_reducible refine Drawn.mark ?_); first | refine Drawn.quiet (by kernel_rfl) ?_) | refine dcell_ok rfl ?_ | refine AppC.new ?_))
  all_goals try first | ((with_reducible show Option.isSome (slElem _ _) = true); kernel_rfl) | ((with_reducible show slElem _ _ = some _); kernel_rfl) | ((with_reducible refine enters_mark ?_); kernel_rfl) | (with_reducible assumption) | ((with_reducible show List.all _ DV.one = true); rfl) | ((with_reducible show (_ : Nat) = _); rfl) | ((with_reducible show (_ == true) = true); first | (simp; done) | simpa using h) | ((with_reducible show (_ : Nat) ≤ _); exact Nat.le_of_ble_eq_true rfl) | ((with_reducible show (_ : Int) ≤ _); first | omega | decide) | ((with_reducible show (_ : Int) < _); first | omega | decide) | ((with_reducible show (_ : Nat) < _); omega) | ((with_reducible show (_ : Nat) ≤ _); omega)
  all_goals try (first | ((with_reducible show (_ : Nat) < List.length [_, _]); exact lt2' _ _ (by decide)) | ((with_reducible show (_ == false) = true); rfl) | (with_reducible exact tnb h) | (with_reducible exact gdd h))
  all_goals (conv => whnf)
  all_goals exact Tells.mk (DW.same _ rfl)
set_option maxRecDepth 100000 in
set_option maxHeartbeats 2000000 in
theorem joins6_y2 (c d g : List Ch) (l : List Lf) (hc : SmC c) (hd : SmC d) (hg : SmC g) (hl : SmL l) (hn : c.length + d.length + g.length + l.length ≤ 1048576) (hw : DPure Tryz.prog 9 [] (bl true)) (h1 : fitCB c = true) (h2 : fitCB d = true) (h3 : fitCB g = true) (h4 : fitLB l = true) (e : (joinT c d).2 = 0) (m : (joinT (joinT c d).1 g).2 = 0) (n : (joinT d g).2 = 0) (p : (appT l c).2 = 0) (q : (appT (appT l c).1 d).2 = 0) : DPure Tryz.prog 6 [chs c, chs d, chs g, lfs l] (bl true) := by
  have lc : c.length ≤ 4194304 := hc.1
  have ld : d.length ≤ 4194304 := hd.1
  have lg : g.length ≤ 4194304 := hg.1
  have ll : l.length ≤ 4194304 := hl.1
  have f1 := chg8_D c hc
  have f2 := chg8_D d hd
  have f3 := chg8_D g hg
  have f4 := fit7_D l hl
  rw [h1] at f1
  rw [h2] at f2
  rw [h3] at f3
  rw [h4] at f4
  have k1 := fitC_iff.1 h1
  have k2 := fitC_iff.1 h2
  have k3 := fitC_iff.1 h3
  have k4 := fitL_iff.1 h4
  have lx := join_len c d
  have j1 := join25_D c d lc ld
  have j2 := join26_D c d lc ld
  have s1 := same17_D (joinT c d).1 (joinT c d).1 (by omega)
  have b1 := back21_D c lc
  have j3 := join25_D c (c.map backC) lc (by rw [List.length_map]; exact lc)
  rw [join_back k1.2] at j3
  rw [decide_eq_true rfl] at s1
  have kx := join_fit k1 k2 e
  rw [pr_eq e] at j1 j2
  have x1 := chg24_D (joinT c d).1 (smc_fit kx (by omega))
  rw [fitC_iff.2 kx] at x1
  have lp := join_len (joinT c d).1 g
  have lq := join_len d g
  have j4 := join25_D (joinT c d).1 g (by omega) lg
  have j5 := join25_D d g ld lg
  have la := app_len l c
  have lb := app_len (appT l c).1 d
  have a1 := apply11_D l c ll lc
  have j6 := join25_D c (joinT d g).1 lc (by omega)
  rw [join_grp k1 k2 k3 e m n] at j6
  rw [pr_eq m] at j4
  rw [pr_eq n] at j5
  have s2 := same17_D (joinT (joinT c d).1 g).1 (joinT (joinT c d).1 g).1 (by omega)
  rw [decide_eq_true rfl] at s2
  rw [pr_eq p] at a1
  have a2 := apply11_D (appT l c).1 d (by omega) ld
  rw [pr_eq q] at a2
  have a3 := apply11_D l (joinT c d).1 ll (by omega)
  rw [join_app k4 k1 k2 e p q] at a3
  have s3 := same13_D (appT (appT l c).1 d).1 (appT (appT l c).1 d).1 (by omega)
  rw [decide_eq_true rfl] at s3
  refine DFun.data (DFun.body Tryz.func6 rfl (by kernel_rfl) ?_)
  repeat' (first | with_reducible rfl | ((conv => whnf); first | refine And.intro ?_ ?_ | (intro h; first | with_reducible exact tf_no h | with_reducible exact ft_no h | exact Bool.noConfusion h | with_reducible exact h | (have ht : true = true := h; clear ht h) | skip) | ((with_reducible refine SCall.mark ?_); first | refine SCall.data (f1) rfl rfl ?_ | refine SCall.scal (f1) rfl rfl ?_ | refine SCall.data (f2) rfl rfl ?_ | refine SCall.scal (f2) rfl rfl ?_ | refine SCall.data (f3) rfl rfl ?_ | refine SCall.scal (f3) rfl rfl ?_ | refine SCall.data (f4) rfl rfl ?_ | refine SCall.scal (f4) rfl rfl ?_ | refine SCall.data (hw) rfl rfl ?_ | refine SCall.scal (hw) rfl rfl ?_ | refine SCall.data (j1) rfl rfl ?_ | refine SCall.scal (j1) rfl rfl ?_ | refine SCall.data (j2) rfl rfl ?_ | refine SCall.scal (j2) rfl rfl ?_ | refine SCall.data (s1) rfl rfl ?_ | refine SCall.scal (s1) rfl rfl ?_ | refine SCall.data (b1) rfl rfl ?_ | refine SCall.scal (b1) rfl rfl ?_ | refine SCall.data (j3) rfl rfl ?_ | refine SCall.scal (j3) rfl rfl ?_ | refine SCall.data (x1) rfl rfl ?_ | refine SCall.scal (x1) rfl rfl ?_ | refine SCall.data (j4) rfl rfl ?_ | refine SCall.scal (j4) rfl rfl ?_ | refine SCall.data (j5) rfl rfl ?_ | refine SCall.scal (j5) rfl rfl ?_ | refine SCall.data (j6) rfl rfl ?_ | refine SCall.scal (j6) rfl rfl ?_ | refine SCall.data (s2) rfl rfl ?_ | refine SCall.scal (s2) rfl rfl ?_ | refine SCall.data (a1) rfl rfl ?_ | refine SCall.scal (a1) rfl rfl ?_ | refine SCall.data (a2) rfl rfl ?_ | refine SCall.scal (a2) rfl rfl ?_ | refine SCall.data (a3) rfl rfl ?_ | refine SCall.scal (a3) rfl rfl ?_ | refine SCall.data (s3) rfl rfl ?_ | refine SCall.scal (s3) rfl rfl ?_) | ((with_reducible refine PCall.mark ?_); first | refine PCall.mk (f1) rfl rfl ?_ | refine PCall.mk (f2) rfl rfl ?_ | refine PCall.mk (f3) rfl rfl ?_ | refine PCall.mk (f4) rfl rfl ?_ | refine PCall.mk (hw) rfl rfl ?_ | refine PCall.mk (j1) rfl rfl ?_ | refine PCall.mk (j2) rfl rfl ?_ | refine PCall.mk (s1) rfl rfl ?_ | refine PCall.mk (b1) rfl rfl ?_ | refine PCall.mk (j3) rfl rfl ?_ | refine PCall.mk (x1) rfl rfl ?_ | refine PCall.mk (j4) rfl rfl ?_ | refine PCall.mk (j5) rfl rfl ?_ | refine PCall.mk (j6) rfl rfl ?_ | refine PCall.mk (s2) rfl rfl ?_ | refine PCall.mk (a1) rfl rfl ?_ | refine PCall.mk (a2) rfl rfl ?_ | refine PCall.mk (a3) rfl rfl ?_ | refine PCall.mk (s3) rfl rfl ?_) | ((with_reducible refine GCall.mark ?_); first | refine GCall.data (fun _ => f1) rfl rfl ?_ | refine GCall.scal (fun _ => f1) rfl rfl ?_ | refine GCall.data (fun _ => f2) rfl rfl ?_ | refine GCall.scal (fun _ => f2) rfl rfl ?_ | refine GCall.data (fun _ => f3) rfl rfl ?_ | refine GCall.scal (fun _ => f3) rfl rfl ?_ | refine GCall.data (fun _ => f4) rfl rfl ?_ | refine GCall.scal (fun _ => f4) rfl rfl ?_ | refine GCall.data (fun _ => hw) rfl rfl ?_ | refine GCall.scal (fun _ => hw) rfl rfl ?_ | refine GCall.data (fun _ => j1) rfl rfl ?_ | refine GCall.scal (fun _ => j1) rfl rfl ?_ | refine GCall.data (fun _ => j2) rfl rfl ?_ | refine GCall.scal (fun _ => j2) rfl rfl ?_ | refine GCall.data (fun _ => s1) rfl rfl ?_ | refine GCall.scal (fun _ => s1) rfl rfl ?_ | refine GCall.data (fun _ => b1) rfl rfl ?_ | refine GCall.scal (fun _ => b1) rfl rfl ?_ | refine GCall.data (fun _ => j3) rfl rfl ?_ | refine GCall.scal (fun _ => j3) rfl rfl ?_ | refine GCall.data (fun _ => x1) rfl rfl ?_ | refine GCall.scal (fun _ => x1) rfl rfl ?_ | refine GCall.data (fun _ => j4) rfl rfl ?_ | refine GCall.scal (fun _ => j4) rfl rfl ?_ | refine GCall.data (fun _ => j5) rfl rfl ?_ | refine GCall.scal (fun _ => j5) rfl rfl ?_ | refine GCall.data (fun _ => j6) rfl rfl ?_ | refine GCall.scal (fun _ => j6) rfl rfl ?_ | refine GCall.data (fun _ => s2) rfl rfl ?_ | refine GCall.scal (fun _ => s2) rfl rfl ?_ | refine GCall.data (fun _ => a1) rfl rfl ?_ | refine GCall.scal (fun _ => a1) rfl rfl ?_ | refine GCall.data (fun _ => a2) rfl rfl ?_ | refine GCall.scal (fun _ => a2) rfl rfl ?_ | refine GCall.data (fun _ => a3) rfl rfl ?_ | refine GCall.scal (fun _ => a3) rfl rfl ?_ | refine GCall.data (fun _ => s3) rfl rfl ?_ | refine GCall.scal (fun _ => s3) rfl rfl ?_) | ((with_reducible refine MCall.mark ?_); first | refine MCall.data (fun _ => f1) rfl rfl ?_ | refine MCall.plain (PCall.mk (f1) rfl rfl ?_) | refine MCall.data (fun _ => f2) rfl rfl ?_ | refine MCall.plain (PCall.mk (f2) rfl rfl ?_) | refine MCall.data (fun _ => f3) rfl rfl ?_ | refine MCall.plain (PCall.mk (f3) rfl rfl ?_) | refine MCall.data (fun _ => f4) rfl rfl ?_ | refine MCall.plain (PCall.mk (f4) rfl rfl ?_) | refine MCall.data (fun _ => hw) rfl rfl ?_ | refine MCall.plain (PCall.mk (hw) rfl rfl ?_) | refine MCall.data (fun _ => j1) rfl rfl ?_ | refine MCall.plain (PCall.mk (j1) rfl rfl ?_) | refine MCall.data (fun _ => j2) rfl rfl ?_ | refine MCall.plain (PCall.mk (j2) rfl rfl ?_) | refine MCall.data (fun _ => s1) rfl rfl ?_ | refine MCall.plain (PCall.mk (s1) rfl rfl ?_) | refine MCall.data (fun _ => b1) rfl rfl ?_ | refine MCall.plain (PCall.mk (b1) rfl rfl ?_) | refine MCall.data (fun _ => j3) rfl rfl ?_ | refine MCall.plain (PCall.mk (j3) rfl rfl ?_) | refine MCall.data (fun _ => x1) rfl rfl ?_ | refine MCall.plain (PCall.mk (x1) rfl rfl ?_) | refine MCall.data (fun _ => j4) rfl rfl ?_ | refine MCall.plain (PCall.mk (j4) rfl rfl ?_) | refine MCall.data (fun _ => j5) rfl rfl ?_ | refine MCall.plain (PCall.mk (j5) rfl rfl ?_) | refine MCall.data (fun _ => j6) rfl rfl ?_ | refine MCall.plain (PCall.mk (j6) rfl rfl ?_) | refine MCall.data (fun _ => s2) rfl rfl ?_ | refine MCall.plain (PCall.mk (s2) rfl rfl ?_) | refine MCall.data (fun _ => a1) rfl rfl ?_ | refine MCall.plain (PCall.mk (a1) rfl rfl ?_) | refine MCall.data (fun _ => a2) rfl rfl ?_ | refine MCall.plain (PCall.mk (a2) rfl rfl ?_) | refine MCall.data (fun _ => a3) rfl rfl ?_ | refine MCall.plain (PCall.mk (a3) rfl rfl ?_) | refine MCall.data (fun _ => s3) rfl rfl ?_ | refine MCall.plain (PCall.mk (s3) rfl rfl ?_)) | ((with_reducible refine ECall.mark ?_); first | refine ECall.only ?_ (fun h => nomatch h) | refine ECall.only ?_ ?_) | ((with_reducible refine Drawn.mark ?_); first | refine Drawn.quiet (by kernel_rfl) ?_) | refine dcell_ok rfl ?_ | refine AppC.new ?_))
  all_goals try first | ((with_reducible show Option.isSome (slElem _ _) = true); kernel_rfl) | ((with_reducible show slElem _ _ = some _); kernel_rfl) | ((with_reducible refine enters_mark ?_); kernel_rfl) | (with_reducible assumption) | ((with_reducible show List.all _ DV.one = true); rfl) | ((with_reducible show (_ : Nat) = _); rfl) | ((with_reducible show (_ == true) = true); first | (simp; done) | simpa using h) | ((with_reducible show (_ : Nat) ≤ _); exact Nat.le_of_ble_eq_true rfl) | ((with_reducible show (_ : Int) ≤ _); first | omega | decide) | ((with_reducible show (_ : Int) < _); first | omega | decide) | ((with_reducible show (_ : Nat) < _); omega) | ((with_reducible show (_ : Nat) ≤ _); omega)
  all_goals try (first | ((with_reducible show (_ : Nat) < List.length [_, _]); exact lt2' _ _ (by decide)) | ((with_reducible show (_ == false) = true); rfl) | (with_reducible exact tnb h) | (with_reducible exact gdd h))
  all_goals (conv => whnf)
  all_goals exact Tells.mk (DW.same _ rfl)
set_option maxRecDepth 100000 in
set_option maxHeartbeats 2000000 in
theorem joins6_m0 (c d g : List Ch) (l : List Lf) (hc : SmC c) (hd : SmC d) (hg : SmC g) (hl : SmL l) (hn : c.length + d.length + g.length + l.length ≤ 1048576) (hw : DPure Tryz.prog 9 [] (bl true)) (h1 : fitCB c = true) (h2 : fitCB d = true) (h3 : fitCB g = true) (h4 : fitLB l = true) (e : (joinT c d).2 = 0) (m : (joinT (joinT c d).1 g).2 ≠ 0) (p : (appT l c).2 ≠ 0) : DPure Tryz.prog 6 [chs c, chs d, chs g, lfs l] (bl true) := by
  have lc : c.length ≤ 4194304 := hc.1
  have ld : d.length ≤ 4194304 := hd.1
  have lg : g.length ≤ 4194304 := hg.1
  have ll : l.length ≤ 4194304 := hl.1
  have f1 := chg8_D c hc
  have f2 := chg8_D d hd
  have f3 := chg8_D g hg
  have f4 := fit7_D l hl
  rw [h1] at f1
  rw [h2] at f2
  rw [h3] at f3
  rw [h4] at f4
  have k1 := fitC_iff.1 h1
  have k2 := fitC_iff.1 h2
  have k3 := fitC_iff.1 h3
  have k4 := fitL_iff.1 h4
  have lx := join_len c d
  have j1 := join25_D c d lc ld
  have j2 := join26_D c d lc ld
  have s1 := same17_D (joinT c d).1 (joinT c d).1 (by omega)
  have b1 := back21_D c lc
  have j3 := join25_D c (c.map backC) lc (by rw [List.length_map]; exact lc)
  rw [join_back k1.2] at j3
  rw [decide_eq_true rfl] at s1
  have kx := join_fit k1 k2 e
  rw [pr_eq e] at j1 j2
  have x1 := chg24_D (joinT c d).1 (smc_fit kx (by omega))
  rw [fitC_iff.2 kx] at x1
  have lp := join_len (joinT c d).1 g
  have lq := join_len d g
  have j4 := join25_D (joinT c d).1 g (by omega) lg
  have j5 := join25_D d g ld lg
  have la := app_len l c
  have lb := app_len (appT l c).1 d
  have a1 := apply11_D l c ll lc
  have hM : (bif (joinT (joinT c d).1 g).2 == 0 then (joinT d g).2 == 0 else false) = false := by rw [nz_eq m]; rfl
  have hA := nz_t p
  refine DFun.data (DFun.body Tryz.func6 rfl (by kernel_rfl) ?_)
  repeat' (first | with_reducible rfl | ((conv => whnf); first | refine And.intro ?_ ?_ | (intro h; first | with_reducible exact tf_no h | with_reducible exact ft_no h | exact Bool.noConfusion h | with_reducible exact h | (exfalso; exact bt_x hM h) | (exfalso; exact bt_x hA h) | (have ht : true = true := h; clear ht h) | skip) | ((with_reducible refine SCall.mark ?_); first | refine SCall.data (f1) rfl rfl ?_ | refine SCall.scal (f1) rfl rfl ?_ | refine SCall.data (f2) rfl rfl ?_ | refine SCall.scal (f2) rfl rfl ?_ | refine SCall.data (f3) rfl rfl ?_ | refine SCall.scal (f3) rfl rfl ?_ | refine SCall.data (f4) rfl rfl ?_ | refine SCall.scal (f4) rfl rfl ?_ | refine SCall.data (hw) rfl rfl ?_ | refine SCall.scal (hw) rfl rfl ?_ | refine SCall.data (j1) rfl rfl ?_ | refine SCall.scal (j1) rfl rfl ?_ | refine SCall.data (j2) rfl rfl ?_ | refine SCall.scal (j2) rfl rfl ?_ | refine SCall.data (s1) rfl rfl ?_ | refine SCall.scal (s1) rfl rfl ?_ | refine SCall.data (b1) rfl rfl ?_ | refine SCall.scal (b1) rfl rfl ?_ | refine SCall.data (j3) rfl rfl ?_ | refine SCall.scal (j3) rfl rfl ?_ | refine SCall.data (x1) rfl rfl ?_ | refine SCall.scal (x1) rfl rfl ?_ | refine SCall.data (j4) rfl rfl ?_ | refine SCall.scal (j4) rfl rfl ?_ | refine SCall.data (j5) rfl rfl ?_ | refine SCall.scal (j5) rfl rfl ?_ | refine SCall.data (a1) rfl rfl ?_ | refine SCall.scal (a1) rfl rfl ?_) | ((with_reducible refine PCall.mark ?_); first | refine PCall.mk (f1) rfl rfl ?_ | refine PCall.mk (f2) rfl rfl ?_ | refine PCall.mk (f3) rfl rfl ?_ | refine PCall.mk (f4) rfl rfl ?_ | refine PCall.mk (hw) rfl rfl ?_ | refine PCall.mk (j1) rfl rfl ?_ | refine PCall.mk (j2) rfl rfl ?_ | refine PCall.mk (s1) rfl rfl ?_ | refine PCall.mk (b1) rfl rfl ?_ | refine PCall.mk (j3) rfl rfl ?_ | refine PCall.mk (x1) rfl rfl ?_ | refine PCall.mk (j4) rfl rfl ?_ | refine PCall.mk (j5) rfl rfl ?_ | refine PCall.mk (a1) rfl rfl ?_) | ((with_reducible refine GCall.mark ?_); first | refine GCall.data (fun _ => f1) rfl rfl ?_ | refine GCall.scal (fun _ => f1) rfl rfl ?_ | refine GCall.data (fun _ => f2) rfl rfl ?_ | refine GCall.scal (fun _ => f2) rfl rfl ?_ | refine GCall.data (fun _ => f3) rfl rfl ?_ | refine GCall.scal (fun _ => f3) rfl rfl ?_ | refine GCall.data (fun _ => f4) rfl rfl ?_ | refine GCall.scal (fun _ => f4) rfl rfl ?_ | refine GCall.data (fun _ => hw) rfl rfl ?_ | refine GCall.scal (fun _ => hw) rfl rfl ?_ | refine GCall.data (fun _ => j1) rfl rfl ?_ | refine GCall.scal (fun _ => j1) rfl rfl ?_ | refine GCall.data (fun _ => j2) rfl rfl ?_ | refine GCall.scal (fun _ => j2) rfl rfl ?_ | refine GCall.data (fun _ => s1) rfl rfl ?_ | refine GCall.scal (fun _ => s1) rfl rfl ?_ | refine GCall.data (fun _ => b1) rfl rfl ?_ | refine GCall.scal (fun _ => b1) rfl rfl ?_ | refine GCall.data (fun _ => j3) rfl rfl ?_ | refine GCall.scal (fun _ => j3) rfl rfl ?_ | refine GCall.data (fun _ => x1) rfl rfl ?_ | refine GCall.scal (fun _ => x1) rfl rfl ?_ | refine GCall.data (fun _ => j4) rfl rfl ?_ | refine GCall.scal (fun _ => j4) rfl rfl ?_ | refine GCall.data (fun _ => j5) rfl rfl ?_ | refine GCall.scal (fun _ => j5) rfl rfl ?_ | refine GCall.data (fun _ => a1) rfl rfl ?_ | refine GCall.scal (fun _ => a1) rfl rfl ?_) | ((with_reducible refine MCall.mark ?_); first | refine MCall.data (fun _ => f1) rfl rfl ?_ | refine MCall.plain (PCall.mk (f1) rfl rfl ?_) | refine MCall.data (fun _ => f2) rfl rfl ?_ | refine MCall.plain (PCall.mk (f2) rfl rfl ?_) | refine MCall.data (fun _ => f3) rfl rfl ?_ | refine MCall.plain (PCall.mk (f3) rfl rfl ?_) | refine MCall.data (fun _ => f4) rfl rfl ?_ | refine MCall.plain (PCall.mk (f4) rfl rfl ?_) | refine MCall.data (fun _ => hw) rfl rfl ?_ | refine MCall.plain (PCall.mk (hw) rfl rfl ?_) | refine MCall.data (fun _ => j1) rfl rfl ?_ | refine MCall.plain (PCall.mk (j1) rfl rfl ?_) | refine MCall.data (fun _ => j2) rfl rfl ?_ | refine MCall.plain (PCall.mk (j2) rfl rfl ?_) | refine MCall.data (fun _ => s1) rfl rfl ?_ | refine MCall.plain (PCall.mk (s1) rfl rfl ?_) | refine MCall.data (fun _ => b1) rfl rfl ?_ | refine MCall.plain (PCall.mk (b1) rfl rfl ?_) | refine MCall.data (fun _ => j3) rfl rfl ?_ | refine MCall.plain (PCall.mk (j3) rfl rfl ?_) | refine MCall.data (fun _ => x1) rfl rfl ?_ | refine MCall.plain (PCall.mk (x1) rfl rfl ?_) | refine MCall.data (fun _ => j4) rfl rfl ?_ | refine MCall.plain (PCall.mk (j4) rfl rfl ?_) | refine MCall.data (fun _ => j5) rfl rfl ?_ | refine MCall.plain (PCall.mk (j5) rfl rfl ?_) | refine MCall.data (fun _ => a1) rfl rfl ?_ | refine MCall.plain (PCall.mk (a1) rfl rfl ?_)) | ((with_reducible refine ECall.mark ?_); first | refine ECall.only ?_ (fun h => nomatch h) | refine ECall.only ?_ ?_) | ((with_reducible refine Drawn.mark ?_); first | refine Drawn.quiet (by kernel_rfl) ?_) | refine dcell_ok rfl ?_ | refine AppC.new ?_))
  all_goals try first | ((with_reducible show Option.isSome (slElem _ _) = true); kernel_rfl) | ((with_reducible show slElem _ _ = some _); kernel_rfl) | ((with_reducible refine enters_mark ?_); kernel_rfl) | (with_reducible assumption) | ((with_reducible show List.all _ DV.one = true); rfl) | ((with_reducible show (_ : Nat) = _); rfl) | ((with_reducible show (_ == true) = true); first | (simp; done) | simpa using h) | ((with_reducible show (_ : Nat) ≤ _); exact Nat.le_of_ble_eq_true rfl) | ((with_reducible show (_ : Int) ≤ _); first | omega | decide) | ((with_reducible show (_ : Int) < _); first | omega | decide) | ((with_reducible show (_ : Nat) < _); omega) | ((with_reducible show (_ : Nat) ≤ _); omega)
  all_goals try (first | ((with_reducible show (_ : Nat) < List.length [_, _]); exact lt2' _ _ (by decide)) | ((with_reducible show (_ == false) = true); rfl) | (with_reducible exact tnb h) | (with_reducible exact gdd h))
  all_goals (conv => whnf)
  all_goals exact Tells.mk (DW.same _ rfl)
set_option maxRecDepth 100000 in
set_option maxHeartbeats 2000000 in
theorem joins6_m1 (c d g : List Ch) (l : List Lf) (hc : SmC c) (hd : SmC d) (hg : SmC g) (hl : SmL l) (hn : c.length + d.length + g.length + l.length ≤ 1048576) (hw : DPure Tryz.prog 9 [] (bl true)) (h1 : fitCB c = true) (h2 : fitCB d = true) (h3 : fitCB g = true) (h4 : fitLB l = true) (e : (joinT c d).2 = 0) (m : (joinT (joinT c d).1 g).2 ≠ 0) (p : (appT l c).2 = 0) (q : (appT (appT l c).1 d).2 ≠ 0) : DPure Tryz.prog 6 [chs c, chs d, chs g, lfs l] (bl true) := by
  have lc : c.length ≤ 4194304 := hc.1
  have ld : d.length ≤ 4194304 := hd.1
  have lg : g.length ≤ 4194304 := hg.1
  have ll : l.length ≤ 4194304 := hl.1
  have f1 := chg8_D c hc
  have f2 := chg8_D d hd
  have f3 := chg8_D g hg
  have f4 := fit7_D l hl
  rw [h1] at f1
  rw [h2] at f2
  rw [h3] at f3
  rw [h4] at f4
  have k1 := fitC_iff.1 h1
  have k2 := fitC_iff.1 h2
  have k3 := fitC_iff.1 h3
  have k4 := fitL_iff.1 h4
  have lx := join_len c d
  have j1 := join25_D c d lc ld
  have j2 := join26_D c d lc ld
  have s1 := same17_D (joinT c d).1 (joinT c d).1 (by omega)
  have b1 := back21_D c lc
  have j3 := join25_D c (c.map backC) lc (by rw [List.length_map]; exact lc)
  rw [join_back k1.2] at j3
  rw [decide_eq_true rfl] at s1
  have kx := join_fit k1 k2 e
  rw [pr_eq e] at j1 j2
  have x1 := chg24_D (joinT c d).1 (smc_fit kx (by omega))
  rw [fitC_iff.2 kx] at x1
  have lp := join_len (joinT c d).1 g
  have lq := join_len d g
  have j4 := join25_D (joinT c d).1 g (by omega) lg
  have j5 := join25_D d g ld lg
  have la := app_len l c
  have lb := app_len (appT l c).1 d
  have a1 := apply11_D l c ll lc
  have hM : (bif (joinT (joinT c d).1 g).2 == 0 then (joinT d g).2 == 0 else false) = false := by rw [nz_eq m]; rfl
  rw [pr_eq p] at a1
  have a2 := apply11_D (appT l c).1 d (by omega) ld
  have hA := nz_t q
  refine DFun.data (DFun.body Tryz.func6 rfl (by kernel_rfl) ?_)
  repeat' (first | with_reducible rfl | ((conv => whnf); first | refine And.intro ?_ ?_ | (intro h; first | with_reducible exact tf_no h | with_reducible exact ft_no h | exact Bool.noConfusion h | with_reducible exact h | (exfalso; exact bt_x hM h) | (exfalso; exact bt_x hA h) | (have ht : true = true := h; clear ht h) | skip) | ((with_reducible refine SCall.mark ?_); first | refine SCall.data (f1) rfl rfl ?_ | refine SCall.scal (f1) rfl rfl ?_ | refine SCall.data (f2) rfl rfl ?_ | refine SCall.scal (f2) rfl rfl ?_ | refine SCall.data (f3) rfl rfl ?_ | refine SCall.scal (f3) rfl rfl ?_ | refine SCall.data (f4) rfl rfl ?_ | refine SCall.scal (f4) rfl rfl ?_ | refine SCall.data (hw) rfl rfl ?_ | refine SCall.scal (hw) rfl rfl ?_ | refine SCall.data (j1) rfl rfl ?_ | refine SCall.scal (j1) rfl rfl ?_ | refine SCall.data (j2) rfl rfl ?_ | refine SCall.scal (j2) rfl rfl ?_ | refine SCall.data (s1) rfl rfl ?_ | refine SCall.scal (s1) rfl rfl ?_ | refine SCall.data (b1) rfl rfl ?_ | refine SCall.scal (b1) rfl rfl ?_ | refine SCall.data (j3) rfl rfl ?_ | refine SCall.scal (j3) rfl rfl ?_ | refine SCall.data (x1) rfl rfl ?_ | refine SCall.scal (x1) rfl rfl ?_ | refine SCall.data (j4) rfl rfl ?_ | refine SCall.scal (j4) rfl rfl ?_ | refine SCall.data (j5) rfl rfl ?_ | refine SCall.scal (j5) rfl rfl ?_ | refine SCall.data (a1) rfl rfl ?_ | refine SCall.scal (a1) rfl rfl ?_ | refine SCall.data (a2) rfl rfl ?_ | refine SCall.scal (a2) rfl rfl ?_) | ((with_reducible refine PCall.mark ?_); first | refine PCall.mk (f1) rfl rfl ?_ | refine PCall.mk (f2) rfl rfl ?_ | refine PCall.mk (f3) rfl rfl ?_ | refine PCall.mk (f4) rfl rfl ?_ | refine PCall.mk (hw) rfl rfl ?_ | refine PCall.mk (j1) rfl rfl ?_ | refine PCall.mk (j2) rfl rfl ?_ | refine PCall.mk (s1) rfl rfl ?_ | refine PCall.mk (b1) rfl rfl ?_ | refine PCall.mk (j3) rfl rfl ?_ | refine PCall.mk (x1) rfl rfl ?_ | refine PCall.mk (j4) rfl rfl ?_ | refine PCall.mk (j5) rfl rfl ?_ | refine PCall.mk (a1) rfl rfl ?_ | refine PCall.mk (a2) rfl rfl ?_) | ((with_reducible refine GCall.mark ?_); first | refine GCall.data (fun _ => f1) rfl rfl ?_ | refine GCall.scal (fun _ => f1) rfl rfl ?_ | refine GCall.data (fun _ => f2) rfl rfl ?_ | refine GCall.scal (fun _ => f2) rfl rfl ?_ | refine GCall.data (fun _ => f3) rfl rfl ?_ | refine GCall.scal (fun _ => f3) rfl rfl ?_ | refine GCall.data (fun _ => f4) rfl rfl ?_ | refine GCall.scal (fun _ => f4) rfl rfl ?_ | refine GCall.data (fun _ => hw) rfl rfl ?_ | refine GCall.scal (fun _ => hw) rfl rfl ?_ | refine GCall.data (fun _ => j1) rfl rfl ?_ | refine GCall.scal (fun _ => j1) rfl rfl ?_ | refine GCall.data (fun _ => j2) rfl rfl ?_ | refine GCall.scal (fun _ => j2) rfl rfl ?_ | refine GCall.data (fun _ => s1) rfl rfl ?_ | refine GCall.scal (fun _ => s1) rfl rfl ?_ | refine GCall.data (fun _ => b1) rfl rfl ?_ | refine GCall.scal (fun _ => b1) rfl rfl ?_ | refine GCall.data (fun _ => j3) rfl rfl ?_ | refine GCall.scal (fun _ => j3) rfl rfl ?_ | refine GCall.data (fun _ => x1) rfl rfl ?_ | refine GCall.scal (fun _ => x1) rfl rfl ?_ | refine GCall.data (fun _ => j4) rfl rfl ?_ | refine GCall.scal (fun _ => j4) rfl rfl ?_ | refine GCall.data (fun _ => j5) rfl rfl ?_ | refine GCall.scal (fun _ => j5) rfl rfl ?_ | refine GCall.data (fun _ => a1) rfl rfl ?_ | refine GCall.scal (fun _ => a1) rfl rfl ?_ | refine GCall.data (fun _ => a2) rfl rfl ?_ | refine GCall.scal (fun _ => a2) rfl rfl ?_) | ((with_reducible refine MCall.mark ?_); first | refine MCall.data (fun _ => f1) rfl rfl ?_ | refine MCall.plain (PCall.mk (f1) rfl rfl ?_) | refine MCall.data (fun _ => f2) rfl rfl ?_ | refine MCall.plain (PCall.mk (f2) rfl rfl ?_) | refine MCall.data (fun _ => f3) rfl rfl ?_ | refine MCall.plain (PCall.mk (f3) rfl rfl ?_) | refine MCall.data (fun _ => f4) rfl rfl ?_ | refine MCall.plain (PCall.mk (f4) rfl rfl ?_) | refine MCall.data (fun _ => hw) rfl rfl ?_ | refine MCall.plain (PCall.mk (hw) rfl rfl ?_) | refine MCall.data (fun _ => j1) rfl rfl ?_ | refine MCall.plain (PCall.mk (j1) rfl rfl ?_) | refine MCall.data (fun _ => j2) rfl rfl ?_ | refine MCall.plain (PCall.mk (j2) rfl rfl ?_) | refine MCall.data (fun _ => s1) rfl rfl ?_ | refine MCall.plain (PCall.mk (s1) rfl rfl ?_) | refine MCall.data (fun _ => b1) rfl rfl ?_ | refine MCall.plain (PCall.mk (b1) rfl rfl ?_) | refine MCall.data (fun _ => j3) rfl rfl ?_ | refine MCall.plain (PCall.mk (j3) rfl rfl ?_) | refine MCall.data (fun _ => x1) rfl rfl ?_ | refine MCall.plain (PCall.mk (x1) rfl rfl ?_) | refine MCall.data (fun _ => j4) rfl rfl ?_ | refine MCall.plain (PCall.mk (j4) rfl rfl ?_) | refine MCall.data (fun _ => j5) rfl rfl ?_ | refine MCall.plain (PCall.mk (j5) rfl rfl ?_) | refine MCall.data (fun _ => a1) rfl rfl ?_ | refine MCall.plain (PCall.mk (a1) rfl rfl ?_) | refine MCall.data (fun _ => a2) rfl rfl ?_ | refine MCall.plain (PCall.mk (a2) rfl rfl ?_)) | ((with_reducible refine ECall.mark ?_); first | refine ECall.only ?_ (fun h => nomatch h) | refine ECall.only ?_ ?_) | ((with_reducible refine Drawn.mark ?_); first | refine Drawn.quiet (by kernel_rfl) ?_) | refine dcell_ok rfl ?_ | refine AppC.new ?_))
  all_goals try first | ((with_reducible show Option.isSome (slElem _ _) = true); kernel_rfl) | ((with_reducible show slElem _ _ = some _); kernel_rfl) | ((with_reducible refine enters_mark ?_); kernel_rfl) | (with_reducible assumption) | ((with_reducible show List.all _ DV.one = true); rfl) | ((with_reducible show (_ : Nat) = _); rfl) | ((with_reducible show (_ == true) = true); first | (simp; done) | simpa using h) | ((with_reducible show (_ : Nat) ≤ _); exact Nat.le_of_ble_eq_true rfl) | ((with_reducible show (_ : Int) ≤ _); first | omega | decide) | ((with_reducible show (_ : Int) < _); first | omega | decide) | ((with_reducible show (_ : Nat) < _); omega) | ((with_reducible show (_ : Nat) ≤ _); omega)
  all_goals try (first | ((with_reducible show (_ : Nat) < List.length [_, _]); exact lt2' _ _ (by decide)) | ((with_reducible show (_ == false) = true); rfl) | (with_reducible exact tnb h) | (with_reducible exact gdd h))
  all_goals (conv => whnf)
  all_goals exact Tells.mk (DW.same _ rfl)
set_option maxRecDepth 100000 in
set_option maxHeartbeats 2000000 in
theorem joins6_m2 (c d g : List Ch) (l : List Lf) (hc : SmC c) (hd : SmC d) (hg : SmC g) (hl : SmL l) (hn : c.length + d.length + g.length + l.length ≤ 1048576) (hw : DPure Tryz.prog 9 [] (bl true)) (h1 : fitCB c = true) (h2 : fitCB d = true) (h3 : fitCB g = true) (h4 : fitLB l = true) (e : (joinT c d).2 = 0) (m : (joinT (joinT c d).1 g).2 ≠ 0) (p : (appT l c).2 = 0) (q : (appT (appT l c).1 d).2 = 0) : DPure Tryz.prog 6 [chs c, chs d, chs g, lfs l] (bl true) := by
  have lc : c.length ≤ 4194304 := hc.1
  have ld : d.length ≤ 4194304 := hd.1
  have lg : g.length ≤ 4194304 := hg.1
  have ll : l.length ≤ 4194304 := hl.1
  have f1 := chg8_D c hc
  have f2 := chg8_D d hd
  have f3 := chg8_D g hg
  have f4 := fit7_D l hl
  rw [h1] at f1
  rw [h2] at f2
  rw [h3] at f3
  rw [h4] at f4
  have k1 := fitC_iff.1 h1
  have k2 := fitC_iff.1 h2
  have k3 := fitC_iff.1 h3
  have k4 := fitL_iff.1 h4
  have lx := join_len c d
  have j1 := join25_D c d lc ld
  have j2 := join26_D c d lc ld
  have s1 := same17_D (joinT c d).1 (joinT c d).1 (by omega)
  have b1 := back21_D c lc
  have j3 := join25_D c (c.map backC) lc (by rw [List.length_map]; exact lc)
  rw [join_back k1.2] at j3
  rw [decide_eq_true rfl] at s1
  have kx := join_fit k1 k2 e
  rw [pr_eq e] at j1 j2
  have x1 := chg24_D (joinT c d).1 (smc_fit kx (by omega))
  rw [fitC_iff.2 kx] at x1
  have lp := join_len (joinT c d).1 g
  have lq := join_len d g
  have j4 := join25_D (joinT c d).1 g (by omega) lg
  have j5 := join25_D d g ld lg
  have la := app_len l c
  have lb := app_len (appT l c).1 d
  have a1 := apply11_D l c ll lc
  have hM : (bif (joinT (joinT c d).1 g).2 == 0 then (joinT d g).2 == 0 else false) = false := by rw [nz_eq m]; rfl
  rw [pr_eq p] at a1
  have a2 := apply11_D (appT l c).1 d (by omega) ld
  rw [pr_eq q] at a2
  have a3 := apply11_D l (joinT c d).1 ll (by omega)
  rw [join_app k4 k1 k2 e p q] at a3
  have s3 := same13_D (appT (appT l c).1 d).1 (appT (appT l c).1 d).1 (by omega)
  rw [decide_eq_true rfl] at s3
  refine DFun.data (DFun.body Tryz.func6 rfl (by kernel_rfl) ?_)
  repeat' (first | with_reducible rfl | ((conv => whnf); first | refine And.intro ?_ ?_ | (intro h; first | with_reducible exact tf_no h | with_reducible exact ft_no h | exact Bool.noConfusion h | with_reducible exact h | (exfalso; exact bt_x hM h) | (have ht : true = true := h; clear ht h) | skip) | ((with_reducible refine SCall.mark ?_); first | refine SCall.data (f1) rfl rfl ?_ | refine SCall.scal (f1) rfl rfl ?_ | refine SCall.data (f2) rfl rfl ?_ | refine SCall.scal (f2) rfl rfl ?_ | refine SCall.data (f3) rfl rfl ?_ | refine SCall.scal (f3) rfl rfl ?_ | refine SCall.data (f4) rfl rfl ?_ | refine SCall.scal (f4) rfl rfl ?_ | refine SCall.data (hw) rfl rfl ?_ | refine SCall.scal (hw) rfl rfl ?_ | refine SCall.data (j1) rfl rfl ?_ | refine SCall.scal (j1) rfl rfl ?_ | refine SCall.data (j2) rfl rfl ?_ | refine SCall.scal (j2) rfl rfl ?_ | refine SCall.data (s1) rfl rfl ?_ | refine SCall.scal (s1) rfl rfl ?_ | refine SCall.data (b1) rfl rfl ?_ | refine SCall.scal (b1) rfl rfl ?_ | refine SCall.data (j3) rfl rfl ?_ | refine SCall.scal (j3) rfl rfl ?_ | refine SCall.data (x1) rfl rfl ?_ | refine SCall.scal (x1) rfl rfl ?_ | refine SCall.data (j4) rfl rfl ?_ | refine SCall.scal (j4) rfl rfl ?_ | refine SCall.data (j5) rfl rfl ?_ | refine SCall.scal (j5) rfl rfl ?_ | refine SCall.data (a1) rfl rfl ?_ | refine SCall.scal (a1) rfl rfl ?_ | refine SCall.data (a2) rfl rfl ?_ | refine SCall.scal (a2) rfl rfl ?_ | refine SCall.data (a3) rfl rfl ?_ | refine SCall.scal (a3) rfl rfl ?_ | refine SCall.data (s3) rfl rfl ?_ | refine SCall.scal (s3) rfl rfl ?_) | ((with_reducible refine PCall.mark ?_); first | refine PCall.mk (f1) rfl rfl ?_ | refine PCall.mk (f2) rfl rfl ?_ | refine PCall.mk (f3) rfl rfl ?_ | refine PCall.mk (f4) rfl rfl ?_ | refine PCall.mk (hw) rfl rfl ?_ | refine PCall.mk (j1) rfl rfl ?_ | refine PCall.mk (j2) rfl rfl ?_ | refine PCall.mk (s1) rfl rfl ?_ | refine PCall.mk (b1) rfl rfl ?_ | refine PCall.mk (j3) rfl rfl ?_ | refine PCall.mk (x1) rfl rfl ?_ | refine PCall.mk (j4) rfl rfl ?_ | refine PCall.mk (j5) rfl rfl ?_ | refine PCall.mk (a1) rfl rfl ?_ | refine PCall.mk (a2) rfl rfl ?_ | refine PCall.mk (a3) rfl rfl ?_ | refine PCall.mk (s3) rfl rfl ?_) | ((with_reducible refine GCall.mark ?_); first | refine GCall.data (fun _ => f1) rfl rfl ?_ | refine GCall.scal (fun _ => f1) rfl rfl ?_ | refine GCall.data (fun _ => f2) rfl rfl ?_ | refine GCall.scal (fun _ => f2) rfl rfl ?_ | refine GCall.data (fun _ => f3) rfl rfl ?_ | refine GCall.scal (fun _ => f3) rfl rfl ?_ | refine GCall.data (fun _ => f4) rfl rfl ?_ | refine GCall.scal (fun _ => f4) rfl rfl ?_ | refine GCall.data (fun _ => hw) rfl rfl ?_ | refine GCall.scal (fun _ => hw) rfl rfl ?_ | refine GCall.data (fun _ => j1) rfl rfl ?_ | refine GCall.scal (fun _ => j1) rfl rfl ?_ | refine GCall.data (fun _ => j2) rfl rfl ?_ | refine GCall.scal (fun _ => j2) rfl rfl ?_ | refine GCall.data (fun _ => s1) rfl rfl ?_ | refine GCall.scal (fun _ => s1) rfl rfl ?_ | refine GCall.data (fun _ => b1) rfl rfl ?_ | refine GCall.scal (fun _ => b1) rfl rfl ?_ | refine GCall.data (fun _ => j3) rfl rfl ?_ | refine GCall.scal (fun _ => j3) rfl rfl ?_ | refine GCall.data (fun _ => x1) rfl rfl ?_ | refine GCall.scal (fun _ => x1) rfl rfl ?_ | refine GCall.data (fun _ => j4) rfl rfl ?_ | refine GCall.scal (fun _ => j4) rfl rfl ?_ | refine GCall.data (fun _ => j5) rfl rfl ?_ | refine GCall.scal (fun _ => j5) rfl rfl ?_ | refine GCall.data (fun _ => a1) rfl rfl ?_ | refine GCall.scal (fun _ => a1) rfl rfl ?_ | refine GCall.data (fun _ => a2) rfl rfl ?_ | refine GCall.scal (fun _ => a2) rfl rfl ?_ | refine GCall.data (fun _ => a3) rfl rfl ?_ | refine GCall.scal (fun _ => a3) rfl rfl ?_ | refine GCall.data (fun _ => s3) rfl rfl ?_ | refine GCall.scal (fun _ => s3) rfl rfl ?_) | ((with_reducible refine MCall.mark ?_); first | refine MCall.data (fun _ => f1) rfl rfl ?_ | refine MCall.plain (PCall.mk (f1) rfl rfl ?_) | refine MCall.data (fun _ => f2) rfl rfl ?_ | refine MCall.plain (PCall.mk (f2) rfl rfl ?_) | refine MCall.data (fun _ => f3) rfl rfl ?_ | refine MCall.plain (PCall.mk (f3) rfl rfl ?_) | refine MCall.data (fun _ => f4) rfl rfl ?_ | refine MCall.plain (PCall.mk (f4) rfl rfl ?_) | refine MCall.data (fun _ => hw) rfl rfl ?_ | refine MCall.plain (PCall.mk (hw) rfl rfl ?_) | refine MCall.data (fun _ => j1) rfl rfl ?_ | refine MCall.plain (PCall.mk (j1) rfl rfl ?_) | refine MCall.data (fun _ => j2) rfl rfl ?_ | refine MCall.plain (PCall.mk (j2) rfl rfl ?_) | refine MCall.data (fun _ => s1) rfl rfl ?_ | refine MCall.plain (PCall.mk (s1) rfl rfl ?_) | refine MCall.data (fun _ => b1) rfl rfl ?_ | refine MCall.plain (PCall.mk (b1) rfl rfl ?_) | refine MCall.data (fun _ => j3) rfl rfl ?_ | refine MCall.plain (PCall.mk (j3) rfl rfl ?_) | refine MCall.data (fun _ => x1) rfl rfl ?_ | refine MCall.plain (PCall.mk (x1) rfl rfl ?_) | refine MCall.data (fun _ => j4) rfl rfl ?_ | refine MCall.plain (PCall.mk (j4) rfl rfl ?_) | refine MCall.data (fun _ => j5) rfl rfl ?_ | refine MCall.plain (PCall.mk (j5) rfl rfl ?_) | refine MCall.data (fun _ => a1) rfl rfl ?_ | refine MCall.plain (PCall.mk (a1) rfl rfl ?_) | refine MCall.data (fun _ => a2) rfl rfl ?_ | refine MCall.plain (PCall.mk (a2) rfl rfl ?_) | refine MCall.data (fun _ => a3) rfl rfl ?_ | refine MCall.plain (PCall.mk (a3) rfl rfl ?_) | refine MCall.data (fun _ => s3) rfl rfl ?_ | refine MCall.plain (PCall.mk (s3) rfl rfl ?_)) | ((with_reducible refine ECall.mark ?_); first | refine ECall.only ?_ (fun h => nomatch h) | refine ECall.only ?_ ?_) | ((with_reducible refine Drawn.mark ?_); first | refine Drawn.quiet (by kernel_rfl) ?_) | refine dcell_ok rfl ?_ | refine AppC.new ?_))
  all_goals try first | ((with_reducible show Option.isSome (slElem _ _) = true); kernel_rfl) | ((with_reducible show slElem _ _ = some _); kernel_rfl) | ((with_reducible refine enters_mark ?_); kernel_rfl) | (with_reducible assumption) | ((with_reducible show List.all _ DV.one = true); rfl) | ((with_reducible show (_ : Nat) = _); rfl) | ((with_reducible show (_ == true) = true); first | (simp; done) | simpa using h) | ((with_reducible show (_ : Nat) ≤ _); exact Nat.le_of_ble_eq_true rfl) | ((with_reducible show (_ : Int) ≤ _); first | omega | decide) | ((with_reducible show (_ : Int) < _); first | omega | decide) | ((with_reducible show (_ : Nat) < _); omega) | ((with_reducible show (_ : Nat) ≤ _); omega)
  all_goals try (first | ((with_reducible show (_ : Nat) < List.length [_, _]); exact lt2' _ _ (by decide)) | ((with_reducible show (_ == false) = true); rfl) | (with_reducible exact tnb h) | (with_reducible exact gdd h))
  all_goals (conv => whnf)
  all_goals exact Tells.mk (DW.same _ rfl)
set_option maxRecDepth 100000 in
set_option maxHeartbeats 2000000 in
theorem joins6_n0 (c d g : List Ch) (l : List Lf) (hc : SmC c) (hd : SmC d) (hg : SmC g) (hl : SmL l) (hn : c.length + d.length + g.length + l.length ≤ 1048576) (hw : DPure Tryz.prog 9 [] (bl true)) (h1 : fitCB c = true) (h2 : fitCB d = true) (h3 : fitCB g = true) (h4 : fitLB l = true) (e : (joinT c d).2 = 0) (n : (joinT d g).2 ≠ 0) (p : (appT l c).2 ≠ 0) : DPure Tryz.prog 6 [chs c, chs d, chs g, lfs l] (bl true) := by
  have lc : c.length ≤ 4194304 := hc.1
  have ld : d.length ≤ 4194304 := hd.1
  have lg : g.length ≤ 4194304 := hg.1
  have ll : l.length ≤ 4194304 := hl.1
  have f1 := chg8_D c hc
  have f2 := chg8_D d hd
  have f3 := chg8_D g hg
  have f4 := fit7_D l hl
  rw [h1] at f1
  rw [h2] at f2
  rw [h3] at f3
  rw [h4] at f4
  have k1 := fitC_iff.1 h1
  have k2 := fitC_iff.1 h2
  have k3 := fitC_iff.1 h3
  have k4 := fitL_iff.1 h4
  have lx := join_len c d
  have j1 := join25_D c d lc ld
  have j2 := join26_D c d lc ld
  have s1 := same17_D (joinT c d).1 (joinT c d).1 (by omega)
  have b1 := back21_D c lc
  have j3 := join25_D c (c.map backC) lc (by rw [List.length_map]; exact lc)
  rw [join_back k1.2] at j3
  rw [decide_eq_true rfl] at s1
  have kx := join_fit k1 k2 e
  rw [pr_eq e] at j1 j2
  have x1 := chg24_D (joinT c d).1 (smc_fit kx (by omega))
  rw [fitC_iff.2 kx] at x1
  have lp := join_len (joinT c d).1 g
  have lq := join_len d g
  have j4 := join25_D (joinT c d).1 g (by omega) lg
  have j5 := join25_D d g ld lg
  have la := app_len l c
  have lb := app_len (appT l c).1 d
  have a1 := apply11_D l c ll lc
  have hM : (bif (joinT (joinT c d).1 g).2 == 0 then (joinT d g).2 == 0 else false) = false := by rw [nz_eq n]; cases (joinT (joinT c d).1 g).2 == 0 <;> rfl
  have hA := nz_t p
  refine DFun.data (DFun.body Tryz.func6 rfl (by kernel_rfl) ?_)
  repeat' (first | with_reducible rfl | ((conv => whnf); first | refine And.intro ?_ ?_ | (intro h; first | with_reducible exact tf_no h | with_reducible exact ft_no h | exact Bool.noConfusion h | with_reducible exact h | (exfalso; exact bt_x hM h) | (exfalso; exact bt_x hA h) | (have ht : true = true := h; clear ht h) | skip) | ((with_reducible refine SCall.mark ?_); first | refine SCall.data (f1) rfl rfl ?_ | refine SCall.scal (f1) rfl rfl ?_ | refine SCall.data (f2) rfl rfl ?_ | refine SCall.scal (f2) rfl rfl ?_ | refine SCall.data (f3) rfl rfl ?_ | refine SCall.scal (f3) rfl rfl ?_ | refine SCall.data (f4) rfl rfl ?_ | refine SCall.scal (f4) rfl rfl ?_ | refine SCall.data (hw) rfl rfl ?_ | refine SCall.scal (hw) rfl rfl ?_ | refine SCall.data (j1) rfl rfl ?_ | refine SCall.scal (j1) rfl rfl ?_ | refine SCall.data (j2) rfl rfl ?_ | refine SCall.scal (j2) rfl rfl ?_ | refine SCall.data (s1) rfl rfl ?_ | refine SCall.scal (s1) rfl rfl ?_ | refine SCall.data (b1) rfl rfl ?_ | refine SCall.scal (b1) rfl rfl ?_ | refine SCall.data (j3) rfl rfl ?_ | refine SCall.scal (j3) rfl rfl ?_ | refine SCall.data (x1) rfl rfl ?_ | refine SCall.scal (x1) rfl rfl ?_ | refine SCall.data (j4) rfl rfl ?_ | refine SCall.scal (j4) rfl rfl ?_ | refine SCall.data (j5) rfl rfl ?_ | refine SCall.scal (j5) rfl rfl ?_ | refine SCall.data (a1) rfl rfl ?_ | refine SCall.scal (a1) rfl rfl ?_) | ((with_reducible refine PCall.mark ?_); first | refine PCall.mk (f1) rfl rfl ?_ | refine PCall.mk (f2) rfl rfl ?_ | refine PCall.mk (f3) rfl rfl ?_ | refine PCall.mk (f4) rfl rfl ?_ | refine PCall.mk (hw) rfl rfl ?_ | refine PCall.mk (j1) rfl rfl ?_ | refine PCall.mk (j2) rfl rfl ?_ | refine PCall.mk (s1) rfl rfl ?_ | refine PCall.mk (b1) rfl rfl ?_ | refine PCall.mk (j3) rfl rfl ?_ | refine PCall.mk (x1) rfl rfl ?_ | refine PCall.mk (j4) rfl rfl ?_ | refine PCall.mk (j5) rfl rfl ?_ | refine PCall.mk (a1) rfl rfl ?_) | ((with_reducible refine GCall.mark ?_); first | refine GCall.data (fun _ => f1) rfl rfl ?_ | refine GCall.scal (fun _ => f1) rfl rfl ?_ | refine GCall.data (fun _ => f2) rfl rfl ?_ | refine GCall.scal (fun _ => f2) rfl rfl ?_ | refine GCall.data (fun _ => f3) rfl rfl ?_ | refine GCall.scal (fun _ => f3) rfl rfl ?_ | refine GCall.data (fun _ => f4) rfl rfl ?_ | refine GCall.scal (fun _ => f4) rfl rfl ?_ | refine GCall.data (fun _ => hw) rfl rfl ?_ | refine GCall.scal (fun _ => hw) rfl rfl ?_ | refine GCall.data (fun _ => j1) rfl rfl ?_ | refine GCall.scal (fun _ => j1) rfl rfl ?_ | refine GCall.data (fun _ => j2) rfl rfl ?_ | refine GCall.scal (fun _ => j2) rfl rfl ?_ | refine GCall.data (fun _ => s1) rfl rfl ?_ | refine GCall.scal (fun _ => s1) rfl rfl ?_ | refine GCall.data (fun _ => b1) rfl rfl ?_ | refine GCall.scal (fun _ => b1) rfl rfl ?_ | refine GCall.data (fun _ => j3) rfl rfl ?_ | refine GCall.scal (fun _ => j3) rfl rfl ?_ | refine GCall.data (fun _ => x1) rfl rfl ?_ | refine GCall.scal (fun _ => x1) rfl rfl ?_ | refine GCall.data (fun _ => j4) rfl rfl ?_ | refine GCall.scal (fun _ => j4) rfl rfl ?_ | refine GCall.data (fun _ => j5) rfl rfl ?_ | refine GCall.scal (fun _ => j5) rfl rfl ?_ | refine GCall.data (fun _ => a1) rfl rfl ?_ | refine GCall.scal (fun _ => a1) rfl rfl ?_) | ((with_reducible refine MCall.mark ?_); first | refine MCall.data (fun _ => f1) rfl rfl ?_ | refine MCall.plain (PCall.mk (f1) rfl rfl ?_) | refine MCall.data (fun _ => f2) rfl rfl ?_ | refine MCall.plain (PCall.mk (f2) rfl rfl ?_) | refine MCall.data (fun _ => f3) rfl rfl ?_ | refine MCall.plain (PCall.mk (f3) rfl rfl ?_) | refine MCall.data (fun _ => f4) rfl rfl ?_ | refine MCall.plain (PCall.mk (f4) rfl rfl ?_) | refine MCall.data (fun _ => hw) rfl rfl ?_ | refine MCall.plain (PCall.mk (hw) rfl rfl ?_) | refine MCall.data (fun _ => j1) rfl rfl ?_ | refine MCall.plain (PCall.mk (j1) rfl rfl ?_) | refine MCall.data (fun _ => j2) rfl rfl ?_ | refine MCall.plain (PCall.mk (j2) rfl rfl ?_) | refine MCall.data (fun _ => s1) rfl rfl ?_ | refine MCall.plain (PCall.mk (s1) rfl rfl ?_) | refine MCall.data (fun _ => b1) rfl rfl ?_ | refine MCall.plain (PCall.mk (b1) rfl rfl ?_) | refine MCall.data (fun _ => j3) rfl rfl ?_ | refine MCall.plain (PCall.mk (j3) rfl rfl ?_) | refine MCall.data (fun _ => x1) rfl rfl ?_ | refine MCall.plain (PCall.mk (x1) rfl rfl ?_) | refine MCall.data (fun _ => j4) rfl rfl ?_ | refine MCall.plain (PCall.mk (j4) rfl rfl ?_) | refine MCall.data (fun _ => j5) rfl rfl ?_ | refine MCall.plain (PCall.mk (j5) rfl rfl ?_) | refine MCall.data (fun _ => a1) rfl rfl ?_ | refine MCall.plain (PCall.mk (a1) rfl rfl ?_)) | ((with_reducible refine ECall.mark ?_); first | refine ECall.only ?_ (fun h => nomatch h) | refine ECall.only ?_ ?_) | ((with_reducible refine Drawn.mark ?_); first | refine Drawn.quiet (by kernel_rfl) ?_) | refine dcell_ok rfl ?_ | refine AppC.new ?_))
  all_goals try first | ((with_reducible show Option.isSome (slElem _ _) = true); kernel_rfl) | ((with_reducible show slElem _ _ = some _); kernel_rfl) | ((with_reducible refine enters_mark ?_); kernel_rfl) | (with_reducible assumption) | ((with_reducible show List.all _ DV.one = true); rfl) | ((with_reducible show (_ : Nat) = _); rfl) | ((with_reducible show (_ == true) = true); first | (simp; done) | simpa using h) | ((with_reducible show (_ : Nat) ≤ _); exact Nat.le_of_ble_eq_true rfl) | ((with_reducible show (_ : Int) ≤ _); first | omega | decide) | ((with_reducible show (_ : Int) < _); first | omega | decide) | ((with_reducible show (_ : Nat) < _); omega) | ((with_reducible show (_ : Nat) ≤ _); omega)
  all_goals try (first | ((with_reducible show (_ : Nat) < List.length [_, _]); exact lt2' _ _ (by decide)) | ((with_reducible show (_ == false) = true); rfl) | (with_reducible exact tnb h) | (with_reducible exact gdd h))
  all_goals (conv => whnf)
  all_goals exact Tells.mk (DW.same _ rfl)
set_option maxRecDepth 100000 in
set_option maxHeartbeats 2000000 in
theorem joins6_n1 (c d g : List Ch) (l : List Lf) (hc : SmC c) (hd : SmC d) (hg : SmC g) (hl : SmL l) (hn : c.length + d.length + g.length + l.length ≤ 1048576) (hw : DPure Tryz.prog 9 [] (bl true)) (h1 : fitCB c = true) (h2 : fitCB d = true) (h3 : fitCB g = true) (h4 : fitLB l = true) (e : (joinT c d).2 = 0) (n : (joinT d g).2 ≠ 0) (p : (appT l c).2 = 0) (q : (appT (appT l c).1 d).2 ≠ 0) : DPure Tryz.prog 6 [chs c, chs d, chs g, lfs l] (bl true) := by
  have lc : c.length ≤ 4194304 := hc.1
  have ld : d.length ≤ 4194304 := hd.1
  have lg : g.length ≤ 4194304 := hg.1
  have ll : l.length ≤ 4194304 := hl.1
  have f1 := chg8_D c hc
  have f2 := chg8_D d hd
  have f3 := chg8_D g hg
  have f4 := fit7_D l hl
  rw [h1] at f1
  rw [h2] at f2
  rw [h3] at f3
  rw [h4] at f4
  have k1 := fitC_iff.1 h1
  have k2 := fitC_iff.1 h2
  have k3 := fitC_iff.1 h3
  have k4 := fitL_iff.1 h4
  have lx := join_len c d
  have j1 := join25_D c d lc ld
  have j2 := join26_D c d lc ld
  have s1 := same17_D (joinT c d).1 (joinT c d).1 (by omega)
  have b1 := back21_D c lc
  have j3 := join25_D c (c.map backC) lc (by rw [List.length_map]; exact lc)
  rw [join_back k1.2] at j3
  rw [decide_eq_true rfl] at s1
  have kx := join_fit k1 k2 e
  rw [pr_eq e] at j1 j2
  have x1 := chg24_D (joinT c d).1 (smc_fit kx (by omega))
  rw [fitC_iff.2 kx] at x1
  have lp := join_len (joinT c d).1 g
  have lq := join_len d g
  have j4 := join25_D (joinT c d).1 g (by omega) lg
  have j5 := join25_D d g ld lg
  have la := app_len l c
  have lb := app_len (appT l c).1 d
  have a1 := apply11_D l c ll lc
  have hM : (bif (joinT (joinT c d).1 g).2 == 0 then (joinT d g).2 == 0 else false) = false := by rw [nz_eq n]; cases (joinT (joinT c d).1 g).2 == 0 <;> rfl
  rw [pr_eq p] at a1
  have a2 := apply11_D (appT l c).1 d (by omega) ld
  have hA := nz_t q
  refine DFun.data (DFun.body Tryz.func6 rfl (by kernel_rfl) ?_)
  repeat' (first | with_reducible rfl | ((conv => whnf); first | refine And.intro ?_ ?_ | (intro h; first | with_reducible exact tf_no h | with_reducible exact ft_no h | exact Bool.noConfusion h | with_reducible exact h | (exfalso; exact bt_x hM h) | (exfalso; exact bt_x hA h) | (have ht : true = true := h; clear ht h) | skip) | ((with_reducible refine SCall.mark ?_); first | refine SCall.data (f1) rfl rfl ?_ | refine SCall.scal (f1) rfl rfl ?_ | refine SCall.data (f2) rfl rfl ?_ | refine SCall.scal (f2) rfl rfl ?_ | refine SCall.data (f3) rfl rfl ?_ | refine SCall.scal (f3) rfl rfl ?_ | refine SCall.data (f4) rfl rfl ?_ | refine SCall.scal (f4) rfl rfl ?_ | refine SCall.data (hw) rfl rfl ?_ | refine SCall.scal (hw) rfl rfl ?_ | refine SCall.data (j1) rfl rfl ?_ | refine SCall.scal (j1) rfl rfl ?_ | refine SCall.data (j2) rfl rfl ?_ | refine SCall.scal (j2) rfl rfl ?_ | refine SCall.data (s1) rfl rfl ?_ | refine SCall.scal (s1) rfl rfl ?_ | refine SCall.data (b1) rfl rfl ?_ | refine SCall.scal (b1) rfl rfl ?_ | refine SCall.data (j3) rfl rfl ?_ | refine SCall.scal (j3) rfl rfl ?_ | refine SCall.data (x1) rfl rfl ?_ | refine SCall.scal (x1) rfl rfl ?_ | refine SCall.data (j4) rfl rfl ?_ | refine SCall.scal (j4) rfl rfl ?_ | refine SCall.data (j5) rfl rfl ?_ | refine SCall.scal (j5) rfl rfl ?_ | refine SCall.data (a1) rfl rfl ?_ | refine SCall.scal (a1) rfl rfl ?_ | refine SCall.data (a2) rfl rfl ?_ | refine SCall.scal (a2) rfl rfl ?_) | ((with_reducible refine PCall.mark ?_); first | refine PCall.mk (f1) rfl rfl ?_ | refine PCall.mk (f2) rfl rfl ?_ | refine PCall.mk (f3) rfl rfl ?_ | refine PCall.mk (f4) rfl rfl ?_ | refine PCall.mk (hw) rfl rfl ?_ | refine PCall.mk (j1) rfl rfl ?_ | refine PCall.mk (j2) rfl rfl ?_ | refine PCall.mk (s1) rfl rfl ?_ | refine PCall.mk (b1) rfl rfl ?_ | refine PCall.mk (j3) rfl rfl ?_ | refine PCall.mk (x1) rfl rfl ?_ | refine PCall.mk (j4) rfl rfl ?_ | refine PCall.mk (j5) rfl rfl ?_ | refine PCall.mk (a1) rfl rfl ?_ | refine PCall.mk (a2) rfl rfl ?_) | ((with_reducible refine GCall.mark ?_); first | refine GCall.data (fun _ => f1) rfl rfl ?_ | refine GCall.scal (fun _ => f1) rfl rfl ?_ | refine GCall.data (fun _ => f2) rfl rfl ?_ | refine GCall.scal (fun _ => f2) rfl rfl ?_ | refine GCall.data (fun _ => f3) rfl rfl ?_ | refine GCall.scal (fun _ => f3) rfl rfl ?_ | refine GCall.data (fun _ => f4) rfl rfl ?_ | refine GCall.scal (fun _ => f4) rfl rfl ?_ | refine GCall.data (fun _ => hw) rfl rfl ?_ | refine GCall.scal (fun _ => hw) rfl rfl ?_ | refine GCall.data (fun _ => j1) rfl rfl ?_ | refine GCall.scal (fun _ => j1) rfl rfl ?_ | refine GCall.data (fun _ => j2) rfl rfl ?_ | refine GCall.scal (fun _ => j2) rfl rfl ?_ | refine GCall.data (fun _ => s1) rfl rfl ?_ | refine GCall.scal (fun _ => s1) rfl rfl ?_ | refine GCall.data (fun _ => b1) rfl rfl ?_ | refine GCall.scal (fun _ => b1) rfl rfl ?_ | refine GCall.data (fun _ => j3) rfl rfl ?_ | refine GCall.scal (fun _ => j3) rfl rfl ?_ | refine GCall.data (fun _ => x1) rfl rfl ?_ | refine GCall.scal (fun _ => x1) rfl rfl ?_ | refine GCall.data (fun _ => j4) rfl rfl ?_ | refine GCall.scal (fun _ => j4) rfl rfl ?_ | refine GCall.data (fun _ => j5) rfl rfl ?_ | refine GCall.scal (fun _ => j5) rfl rfl ?_ | refine GCall.data (fun _ => a1) rfl rfl ?_ | refine GCall.scal (fun _ => a1) rfl rfl ?_ | refine GCall.data (fun _ => a2) rfl rfl ?_ | refine GCall.scal (fun _ => a2) rfl rfl ?_) | ((with_reducible refine MCall.mark ?_); first | refine MCall.data (fun _ => f1) rfl rfl ?_ | refine MCall.plain (PCall.mk (f1) rfl rfl ?_) | refine MCall.data (fun _ => f2) rfl rfl ?_ | refine MCall.plain (PCall.mk (f2) rfl rfl ?_) | refine MCall.data (fun _ => f3) rfl rfl ?_ | refine MCall.plain (PCall.mk (f3) rfl rfl ?_) | refine MCall.data (fun _ => f4) rfl rfl ?_ | refine MCall.plain (PCall.mk (f4) rfl rfl ?_) | refine MCall.data (fun _ => hw) rfl rfl ?_ | refine MCall.plain (PCall.mk (hw) rfl rfl ?_) | refine MCall.data (fun _ => j1) rfl rfl ?_ | refine MCall.plain (PCall.mk (j1) rfl rfl ?_) | refine MCall.data (fun _ => j2) rfl rfl ?_ | refine MCall.plain (PCall.mk (j2) rfl rfl ?_) | refine MCall.data (fun _ => s1) rfl rfl ?_ | refine MCall.plain (PCall.mk (s1) rfl rfl ?_) | refine MCall.data (fun _ => b1) rfl rfl ?_ | refine MCall.plain (PCall.mk (b1) rfl rfl ?_) | refine MCall.data (fun _ => j3) rfl rfl ?_ | refine MCall.plain (PCall.mk (j3) rfl rfl ?_) | refine MCall.data (fun _ => x1) rfl rfl ?_ | refine MCall.plain (PCall.mk (x1) rfl rfl ?_) | refine MCall.data (fun _ => j4) rfl rfl ?_ | refine MCall.plain (PCall.mk (j4) rfl rfl ?_) | refine MCall.data (fun _ => j5) rfl rfl ?_ | refine MCall.plain (PCall.mk (j5) rfl rfl ?_) | refine MCall.data (fun _ => a1) rfl rfl ?_ | refine MCall.plain (PCall.mk (a1) rfl rfl ?_) | refine MCall.data (fun _ => a2) rfl rfl ?_ | refine MCall.plain (PCall.mk (a2) rfl rfl ?_)) | ((with_reducible refine ECall.mark ?_); first | refine ECall.only ?_ (fun h => nomatch h) | refine ECall.only ?_ ?_) | ((with_reducible refine Drawn.mark ?_); first | refine Drawn.quiet (by kernel_rfl) ?_) | refine dcell_ok rfl ?_ | refine AppC.new ?_))
  all_goals try first | ((with_reducible show Option.isSome (slElem _ _) = true); kernel_rfl) | ((with_reducible show slElem _ _ = some _); kernel_rfl) | ((with_reducible refine enters_mark ?_); kernel_rfl) | (with_reducible assumption) | ((with_reducible show List.all _ DV.one = true); rfl) | ((with_reducible show (_ : Nat) = _); rfl) | ((with_reducible show (_ == true) = true); first | (simp; done) | simpa using h) | ((with_reducible show (_ : Nat) ≤ _); exact Nat.le_of_ble_eq_true rfl) | ((with_reducible show (_ : Int) ≤ _); first | omega | decide) | ((with_reducible show (_ : Int) < _); first | omega | decide) | ((with_reducible show (_ : Nat) < _); omega) | ((with_reducible show (_ : Nat) ≤ _); omega)
  all_goals try (first | ((with_reducible show (_ : Nat) < List.length [_, _]); exact lt2' _ _ (by decide)) | ((with_reducible show (_ == false) = true); rfl) | (with_reducible exact tnb h) | (with_reducible exact gdd h))
  all_goals (conv => whnf)
  all_goals exact Tells.mk (DW.same _ rfl)
set_option maxRecDepth 100000 in
set_option maxHeartbeats 2000000 in
theorem joins6_n2 (c d g : List Ch) (l : List Lf) (hc : SmC c) (hd : SmC d) (hg : SmC g) (hl : SmL l) (hn : c.length + d.length + g.length + l.length ≤ 1048576) (hw : DPure Tryz.prog 9 [] (bl true)) (h1 : fitCB c = true) (h2 : fitCB d = true) (h3 : fitCB g = true) (h4 : fitLB l = true) (e : (joinT c d).2 = 0) (n : (joinT d g).2 ≠ 0) (p : (appT l c).2 = 0) (q : (appT (appT l c).1 d).2 = 0) : DPure Tryz.prog 6 [chs c, chs d, chs g, lfs l] (bl true) := by
  have lc : c.length ≤ 4194304 := hc.1
  have ld : d.length ≤ 4194304 := hd.1
  have lg : g.length ≤ 4194304 := hg.1
  have ll : l.length ≤ 4194304 := hl.1
  have f1 := chg8_D c hc
  have f2 := chg8_D d hd
  have f3 := chg8_D g hg
  have f4 := fit7_D l hl
  rw [h1] at f1
  rw [h2] at f2
  rw [h3] at f3
  rw [h4] at f4
  have k1 := fitC_iff.1 h1
  have k2 := fitC_iff.1 h2
  have k3 := fitC_iff.1 h3
  have k4 := fitL_iff.1 h4
  have lx := join_len c d
  have j1 := join25_D c d lc ld
  have j2 := join26_D c d lc ld
  have s1 := same17_D (joinT c d).1 (joinT c d).1 (by omega)
  have b1 := back21_D c lc
  have j3 := join25_D c (c.map backC) lc (by rw [List.length_map]; exact lc)
  rw [join_back k1.2] at j3
  rw [decide_eq_true rfl] at s1
  have kx := join_fit k1 k2 e
  rw [pr_eq e] at j1 j2
  have x1 := chg24_D (joinT c d).1 (smc_fit kx (by omega))
  rw [fitC_iff.2 kx] at x1
  have lp := join_len (joinT c d).1 g
  have lq := join_len d g
  have j4 := join25_D (joinT c d).1 g (by omega) lg
  have j5 := join25_D d g ld lg
  have la := app_len l c
  have lb := app_len (appT l c).1 d
  have a1 := apply11_D l c ll lc
  have hM : (bif (joinT (joinT c d).1 g).2 == 0 then (joinT d g).2 == 0 else false) = false := by rw [nz_eq n]; cases (joinT (joinT c d).1 g).2 == 0 <;> rfl
  rw [pr_eq p] at a1
  have a2 := apply11_D (appT l c).1 d (by omega) ld
  rw [pr_eq q] at a2
  have a3 := apply11_D l (joinT c d).1 ll (by omega)
  rw [join_app k4 k1 k2 e p q] at a3
  have s3 := same13_D (appT (appT l c).1 d).1 (appT (appT l c).1 d).1 (by omega)
  rw [decide_eq_true rfl] at s3
  refine DFun.data (DFun.body Tryz.func6 rfl (by kernel_rfl) ?_)
  repeat' (first | with_reducible rfl | ((conv => whnf); first | refine And.intro ?_ ?_ | (intro h; first | with_reducible exact tf_no h | with_reducible exact ft_no h | exact Bool.noConfusion h | with_reducible exact h | (exfalso; exact bt_x hM h) | (have ht : true = true := h; clear ht h) | skip) | ((with_reducible refine SCall.mark ?_); first | refine SCall.data (f1) rfl rfl ?_ | refine SCall.scal (f1) rfl rfl ?_ | refine SCall.data (f2) rfl rfl ?_ | refine SCall.scal (f2) rfl rfl ?_ | refine SCall.data (f3) rfl rfl ?_ | refine SCall.scal (f3) rfl rfl ?_ | refine SCall.data (f4) rfl rfl ?_ | refine SCall.scal (f4) rfl rfl ?_ | refine SCall.data (hw) rfl rfl ?_ | refine SCall.scal (hw) rfl rfl ?_ | refine SCall.data (j1) rfl rfl ?_ | refine SCall.scal (j1) rfl rfl ?_ | refine SCall.data (j2) rfl rfl ?_ | refine SCall.scal (j2) rfl rfl ?_ | refine SCall.data (s1) rfl rfl ?_ | refine SCall.scal (s1) rfl rfl ?_ | refine SCall.data (b1) rfl rfl ?_ | refine SCall.scal (b1) rfl rfl ?_ | refine SCall.data (j3) rfl rfl ?_ | refine SCall.scal (j3) rfl rfl ?_ | refine SCall.data (x1) rfl rfl ?_ | refine SCall.scal (x1) rfl rfl ?_ | refine SCall.data (j4) rfl rfl ?_ | refine SCall.scal (j4) rfl rfl ?_ | refine SCall.data (j5) rfl rfl ?_ | refine SCall.scal (j5) rfl rfl ?_ | refine SCall.data (a1) rfl rfl ?_ | refine SCall.scal (a1) rfl rfl ?_ | refine SCall.data (a2) rfl rfl ?_ | refine SCall.scal (a2) rfl rfl ?_ | refine SCall.data (a3) rfl rfl ?_ | refine SCall.scal (a3) rfl rfl ?_ | refine SCall.data (s3) rfl rfl ?_ | refine SCall.scal (s3) rfl rfl ?_) | ((with_reducible refine PCall.mark ?_); first | refine PCall.mk (f1) rfl rfl ?_ | refine PCall.mk (f2) rfl rfl ?_ | refine PCall.mk (f3) rfl rfl ?_ | refine PCall.mk (f4) rfl rfl ?_ | refine PCall.mk (hw) rfl rfl ?_ | refine PCall.mk (j1) rfl rfl ?_ | refine PCall.mk (j2) rfl rfl ?_ | refine PCall.mk (s1) rfl rfl ?_ | refine PCall.mk (b1) rfl rfl ?_ | refine PCall.mk (j3) rfl rfl ?_ | refine PCall.mk (x1) rfl rfl ?_ | refine PCall.mk (j4) rfl rfl ?_ | refine PCall.mk (j5) rfl rfl ?_ | refine PCall.mk (a1) rfl rfl ?_ | refine PCall.mk (a2) rfl rfl ?_ | refine PCall.mk (a3) rfl rfl ?_ | refine PCall.mk (s3) rfl rfl ?_) | ((with_reducible refine GCall.mark ?_); first | refine GCall.data (fun _ => f1) rfl rfl ?_ | refine GCall.scal (fun _ => f1) rfl rfl ?_ | refine GCall.data (fun _ => f2) rfl rfl ?_ | refine GCall.scal (fun _ => f2) rfl rfl ?_ | refine GCall.data (fun _ => f3) rfl rfl ?_ | refine GCall.scal (fun _ => f3) rfl rfl ?_ | refine GCall.data (fun _ => f4) rfl rfl ?_ | refine GCall.scal (fun _ => f4) rfl rfl ?_ | refine GCall.data (fun _ => hw) rfl rfl ?_ | refine GCall.scal (fun _ => hw) rfl rfl ?_ | refine GCall.data (fun _ => j1) rfl rfl ?_ | refine GCall.scal (fun _ => j1) rfl rfl ?_ | refine GCall.data (fun _ => j2) rfl rfl ?_ | refine GCall.scal (fun _ => j2) rfl rfl ?_ | refine GCall.data (fun _ => s1) rfl rfl ?_ | refine GCall.scal (fun _ => s1) rfl rfl ?_ | refine GCall.data (fun _ => b1) rfl rfl ?_ | refine GCall.scal (fun _ => b1) rfl rfl ?_ | refine GCall.data (fun _ => j3) rfl rfl ?_ | refine GCall.scal (fun _ => j3) rfl rfl ?_ | refine GCall.data (fun _ => x1) rfl rfl ?_ | refine GCall.scal (fun _ => x1) rfl rfl ?_ | refine GCall.data (fun _ => j4) rfl rfl ?_ | refine GCall.scal (fun _ => j4) rfl rfl ?_ | refine GCall.data (fun _ => j5) rfl rfl ?_ | refine GCall.scal (fun _ => j5) rfl rfl ?_ | refine GCall.data (fun _ => a1) rfl rfl ?_ | refine GCall.scal (fun _ => a1) rfl rfl ?_ | refine GCall.data (fun _ => a2) rfl rfl ?_ | refine GCall.scal (fun _ => a2) rfl rfl ?_ | refine GCall.data (fun _ => a3) rfl rfl ?_ | refine GCall.scal (fun _ => a3) rfl rfl ?_ | refine GCall.data (fun _ => s3) rfl rfl ?_ | refine GCall.scal (fun _ => s3) rfl rfl ?_) | ((with_reducible refine MCall.mark ?_); first | refine MCall.data (fun _ => f1) rfl rfl ?_ | refine MCall.plain (PCall.mk (f1) rfl rfl ?_) | refine MCall.data (fun _ => f2) rfl rfl ?_ | refine MCall.plain (PCall.mk (f2) rfl rfl ?_) | refine MCall.data (fun _ => f3) rfl rfl ?_ | refine MCall.plain (PCall.mk (f3) rfl rfl ?_) | refine MCall.data (fun _ => f4) rfl rfl ?_ | refine MCall.plain (PCall.mk (f4) rfl rfl ?_) | refine MCall.data (fun _ => hw) rfl rfl ?_ | refine MCall.plain (PCall.mk (hw) rfl rfl ?_) | refine MCall.data (fun _ => j1) rfl rfl ?_ | refine MCall.plain (PCall.mk (j1) rfl rfl ?_) | refine MCall.data (fun _ => j2) rfl rfl ?_ | refine MCall.plain (PCall.mk (j2) rfl rfl ?_) | refine MCall.data (fun _ => s1) rfl rfl ?_ | refine MCall.plain (PCall.mk (s1) rfl rfl ?_) | refine MCall.data (fun _ => b1) rfl rfl ?_ | refine MCall.plain (PCall.mk (b1) rfl rfl ?_) | refine MCall.data (fun _ => j3) rfl rfl ?_ | refine MCall.plain (PCall.mk (j3) rfl rfl ?_) | refine MCall.data (fun _ => x1) rfl rfl ?_ | refine MCall.plain (PCall.mk (x1) rfl rfl ?_) | refine MCall.data (fun _ => j4) rfl rfl ?_ | refine MCall.plain (PCall.mk (j4) rfl rfl ?_) | refine MCall.data (fun _ => j5) rfl rfl ?_ | refine MCall.plain (PCall.mk (j5) rfl rfl ?_) | refine MCall.data (fun _ => a1) rfl rfl ?_ | refine MCall.plain (PCall.mk (a1) rfl rfl ?_) | refine MCall.data (fun _ => a2) rfl rfl ?_ | refine MCall.plain (PCall.mk (a2) rfl rfl ?_) | refine MCall.data (fun _ => a3) rfl rfl ?_ | refine MCall.plain (PCall.mk (a3) rfl rfl ?_) | refine MCall.data (fun _ => s3) rfl rfl ?_ | refine MCall.plain (PCall.mk (s3) rfl rfl ?_)) | ((with_reducible refine ECall.mark ?_); first | refine ECall.only ?_ (fun h => nomatch h) | refine ECall.only ?_ ?_) | ((with_reducible refine Drawn.mark ?_); first | refine Drawn.quiet (by kernel_rfl) ?_) | refine dcell_ok rfl ?_ | refine AppC.new ?_))
  all_goals try first | ((with_reducible show Option.isSome (slElem _ _) = true); kernel_rfl) | ((with_reducible show slElem _ _ = some _); kernel_rfl) | ((with_reducible refine enters_mark ?_); kernel_rfl) | (with_reducible assumption) | ((with_reducible show List.all _ DV.one = true); rfl) | ((with_reducible show (_ : Nat) = _); rfl) | ((with_reducible show (_ == true) = true); first | (simp; done) | simpa using h) | ((with_reducible show (_ : Nat) ≤ _); exact Nat.le_of_ble_eq_true rfl) | ((with_reducible show (_ : Int) ≤ _); first | omega | decide) | ((with_reducible show (_ : Int) < _); first | omega | decide) | ((with_reducible show (_ : Nat) < _); omega) | ((with_reducible show (_ : Nat) ≤ _); omega)
  all_goals try (first | ((with_reducible show (_ : Nat) < List.length [_, _]); exact lt2' _ _ (by decide)) | ((with_reducible show (_ == false) = true); rfl) | (with_reducible exact tnb h) | (with_reducible exact gdd h))
  all_goals (conv => whnf)
  all_goals exact Tells.mk (DW.same _ rfl)
theorem joins6_D (c d g : List Ch) (l : List Lf) (hc : SmC c) (hd : SmC d) (hg : SmC g) (hl : SmL l) (hn : c.length + d.length + g.length + l.length ≤ 1048576) (hw : DPure Tryz.prog 9 [] (bl true)) : DPure Tryz.prog 6 [chs c, chs d, chs g, lfs l] (bl true) := by
  by_cases hf : fitCB c = true ∧ fitCB d = true ∧ fitCB g = true ∧ fitLB l = true
  · obtain ⟨h1, h2, h3, h4⟩ := hf
    by_cases e : (joinT c d).2 = 0
    · by_cases m : (joinT (joinT c d).1 g).2 = 0
      · by_cases n : (joinT d g).2 = 0
        · by_cases p : (appT l c).2 = 0
          · by_cases q : (appT (appT l c).1 d).2 = 0
            · exact joins6_y2 c d g l hc hd hg hl hn hw h1 h2 h3 h4 e m n p q
            · exact joins6_y1 c d g l hc hd hg hl hn hw h1 h2 h3 h4 e m n p q
          · exact joins6_y0 c d g l hc hd hg hl hn hw h1 h2 h3 h4 e m n p
        · by_cases p : (appT l c).2 = 0
          · by_cases q : (appT (appT l c).1 d).2 = 0
            · exact joins6_n2 c d g l hc hd hg hl hn hw h1 h2 h3 h4 e n p q
            · exact joins6_n1 c d g l hc hd hg hl hn hw h1 h2 h3 h4 e n p q
          · exact joins6_n0 c d g l hc hd hg hl hn hw h1 h2 h3 h4 e n p
      · by_cases p : (appT l c).2 = 0
        · by_cases q : (appT (appT l c).1 d).2 = 0
          · exact joins6_m2 c d g l hc hd hg hl hn hw h1 h2 h3 h4 e m p q
          · exact joins6_m1 c d g l hc hd hg hl hn hw h1 h2 h3 h4 e m p q
        · exact joins6_m0 c d g l hc hd hg hl hn hw h1 h2 h3 h4 e m p
    · exact joins6_e c d g l hc hd hg hl hn hw h1 h2 h3 h4 e
  · exact joins6_no c d g l hc hd hg hl hn hw hf
end Go.Proofs.YtagfmppjlfhmeaaGreatDoor


