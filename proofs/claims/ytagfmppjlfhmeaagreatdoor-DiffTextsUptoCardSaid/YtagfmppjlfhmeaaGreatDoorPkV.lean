/- The law of texts. -/
import Derived.Test.YtagfmppjlfhmeaaGreatDoorPkT
import Derived.Test.YtagfmppjlfhmeaaGreatDoorPkZ

namespace Go.Proofs.YtagfmppjlfhmeaaGreatDoor
open Go.RowKit Go.Dl
theorem smc_of {x : List Ch} (h : ∀ y ∈ x, oneB y = true) (hl : x.length ≤ 4194304) : SmC x :=
  ⟨hl, fun y hy => have h1 := oneB_iff.1 (h y hy); ⟨path_le h1.1, val_le h1.2.1, val_le h1.2.2.1⟩⟩
theorem lin_sz (c : Ch) : (lineC c).size ≤ c.p.size + c.was.size + c.is.size + 8 := by
  obtain ⟨e1, e2, e3, e4, e5, _⟩ := lit_sz
  unfold lineC
  cases c.hw <;> cases c.hi <;> simp only [Bool.not_true, Bool.not_false, cond_true, cond_false, ByteArray.size_append] <;> omega
theorem txt_sz : ∀ c : List Ch, (txt c).size ≤ (c.map gC).sum + 3 * c.length
  | [] => Nat.zero_le _
  | x :: c => by
    have h1 := txt_sz c
    have h2 := lin_sz x
    have e : nlB.size = 1 := rfl
    rw [txt, ByteArray.size_append, ByteArray.size_append, List.map_cons, List.sum_cons, List.length_cons, e]
    show _ ≤ x.p.size + x.was.size + x.is.size + 6 + _ + _
    omega
theorem txt_len : ∀ c : List Ch, c.length ≤ (txt c).size
  | [] => Nat.zero_le _
  | x :: c => by
    have h1 := txt_len c
    have e : nlB.size = 1 := rfl
    rw [txt, ByteArray.size_append, ByteArray.size_append, List.length_cons, e]; omega
theorem gC_len : ∀ c : List Ch, c.length * 6 ≤ (c.map gC).sum
  | [] => Nat.zero_le _
  | x :: c => by
    have h1 := gC_len c
    rw [List.map_cons, List.sum_cons, List.length_cons]
    show _ ≤ x.p.size + x.was.size + x.is.size + 6 + _
    omega
theorem gC_mem {x : Ch} : ∀ {l : List Ch}, x ∈ l → x.p.size + x.was.size + x.is.size + 6 ≤ (l.map gC).sum
  | [], h => by cases h
  | a :: l, h => by
    rw [List.map_cons, List.sum_cons]
    rcases List.mem_cons.1 h with rfl | h
    · show _ ≤ x.p.size + x.was.size + x.is.size + 6 + _
      omega
    · have := gC_mem h; omega
theorem gC_smc {l : List Ch} (h : (l.map gC).sum ≤ 1048576) : SmC l := by
  have h1 := gC_len l
  refine ⟨by omega, fun x hx => ?_⟩
  have := gC_mem hx
  omega
theorem par_err : ∀ (n : Nat) (t : ByteArray) (o : List Ch), (parN n t o).2.2 ≠ 0 → (parN n t o).1 = []
  | 0, _, _, h => absurd rfl h
  | n + 1, t, o, h => by
    rw [parN] at h ⊢
    cases h0 : (t != emB) with
    | false => rw [h0] at h; exact absurd rfl h
    | true =>
      rw [h0] at h
      cases h1 : (bif !(readC (lineOf t)).2 then true else !endOf t) with
      | true => rfl
      | false =>
        rw [h1] at h
        cases h2 : lowB o (readC (lineOf t)).1 with
        | true => rfl
        | false => rw [h2] at h; exact par_err n _ _ h
theorem err_len {t : ByteArray} (h : ((parseT t).2.2 == 0) = false) : (parseT t).1.length ≤ 9223372036854775807 := by
  have := par_err (t.size + 1) t [] (beq_eq_false_iff_ne.1 h)
  rw [show (parseT t).1 = [] from this]; exact Nat.zero_le _
theorem tnb2 {b : Bool} (h : (true && b) = true) : (b == true) = true := by cases b; cases h; rfl
theorem kF : eqTK Tryz.prog 38 = some [.int, .int] := by kernel_rfl
attribute [local irreducible] Tri SCall TSem ECall Drawn DFun QSem PSem PCall GCall MCall Round Weak dloadE OW DWl Tells IntKind.wrap Retold ESem
attribute [local irreducible] parseT textP fitCB txt
set_option maxRecDepth 100000 in
set_option maxHeartbeats 4000000 in
theorem texts4_a (c : List Ch) (t : ByteArray) (hc : (c.map gC).sum ≤ 1048576) (ht : t.size ≤ 1048576) (hw : DPure Tryz.prog 9 [] (bl true)) (he : ((parseT t).2.2 == 0) = true) (hf : fitCB c = false) : DPure Tryz.prog 4 [chs c, strV t] (bl true) := by
  have hs := gC_smc hc
  have h15 := parse15_D t (by omega)
  have h16 := parse16_D t (by omega)
  have h8 := chg8_D c hs
  rw [hf] at h8
  obtain ⟨p1, p2⟩ := print_parse (t := t) (beq_iff_eq.1 he)
  have hx : (parseT t).1.length ≤ 1048576 := by have := txt_len (parseT t).1; rw [p1] at this; omega
  have h18 := print18_D (parseT t).1 (smc_of p2 (by omega))
  rw [tp_all, p1] at h18
  have hq0 : (t != t) = false := by unfold bne; rw [ba_eq.2 rfl]; rfl
  generalize hr : parseT t = r at *
  obtain ⟨x, ln, er⟩ := r
  have h17 : DPure Tryz.prog 17 [chs x, chs x] (bl true) := by
    have := same17_D x x (by simp only at hx; omega)
    rw [decide_eq_true rfl] at this; exact this
  have n1 : (ln != ln) = false := bne_self_eq_false ln
  have n2 : (er != er) = false := bne_self_eq_false er
  have hP : (bif bif !true then true else ln != ln then true else er != er) = false := by rw [n1, n2]; rfl
  have he : (er == 0) = true := he
  have hQ : (bif er == 0 then t != t else false) = false := by rw [he, hq0]; rfl
  refine DFun.data (DFun.body Tryz.func4 rfl (by kernel_rfl) ?_)
  repeat' (first | with_reducible rfl | ((conv => whnf); first | refine And.intro ?_ ?_ | (intro h; first | with_reducible exact tf_no h | with_reducible exact ft_no h | exact Bool.noConfusion h | with_reducible exact h | (exfalso; exact bt_x hP h) | (exfalso; exact bt_x hQ h) | (have ht : true = true := h; clear ht h) | skip) | ((with_reducible refine SCall.mark ?_); first | refine SCall.data (h15) rfl rfl ?_ | refine SCall.scal (h15) rfl rfl ?_ | refine SCall.data (h16) rfl rfl ?_ | refine SCall.scal (h16) rfl rfl ?_ | refine SCall.data (h17) rfl rfl ?_ | refine SCall.scal (h17) rfl rfl ?_ | refine SCall.data (h8) rfl rfl ?_ | refine SCall.scal (h8) rfl rfl ?_ | refine SCall.data (hw) rfl rfl ?_ | refine SCall.scal (hw) rfl rfl ?_ | refine SCall.data (h18) rfl rfl ?_ | refine SCall.scal (h18) rfl rfl ?_) | ((with_reducible refine PCall.mark ?_); first | refine PCall.mk (h15) rfl rfl ?_ | refine PCall.mk (h16) rfl rfl ?_ | refine PCall.mk (h17) rfl rfl ?_ | refine PCall.mk (h8) rfl rfl ?_ | refine PCall.mk (hw) rfl rfl ?_ | refine PCall.mk (h18) rfl rfl ?_) | ((with_reducible refine GCall.mark ?_); first | refine GCall.data (fun _ => h15) rfl rfl ?_ | refine GCall.scal (fun _ => h15) rfl rfl ?_ | refine GCall.data (fun _ => h16) rfl rfl ?_ | refine GCall.scal (fun _ => h16) rfl rfl ?_ | refine GCall.data (fun _ => h17) rfl rfl ?_ | refine GCall.scal (fun _ => h17) rfl rfl ?_ | refine GCall.data (fun _ => h8) rfl rfl ?_ | refine GCall.scal (fun _ => h8) rfl rfl ?_ | refine GCall.data (fun _ => hw) rfl rfl ?_ | refine GCall.scal (fun _ => hw) rfl rfl ?_ | refine GCall.data (fun _ => h18) rfl rfl ?_ | refine GCall.scal (fun _ => h18) rfl rfl ?_) | ((with_reducible refine MCall.mark ?_); first | refine MCall.data (fun _ => h15) rfl rfl ?_ | refine MCall.plain (PCall.mk (h15) rfl rfl ?_) | refine MCall.data (fun _ => h16) rfl rfl ?_ | refine MCall.plain (PCall.mk (h16) rfl rfl ?_) | refine MCall.data (fun _ => h17) rfl rfl ?_ | refine MCall.plain (PCall.mk (h17) rfl rfl ?_) | refine MCall.data (fun _ => h8) rfl rfl ?_ | refine MCall.plain (PCall.mk (h8) rfl rfl ?_) | refine MCall.data (fun _ => hw) rfl rfl ?_ | refine MCall.plain (PCall.mk (hw) rfl rfl ?_) | refine MCall.data (fun _ => h18) rfl rfl ?_ | refine MCall.plain (PCall.mk (h18) rfl rfl ?_)) | ((with_reducible refine ex_mark ?_); first | refine dq_eql kF ?_ rfl ?_ rfl rfl ?_ | refine dq_neq kF ?_ rfl ?_ rfl rfl ?_) | ((with_reducible refine ECall.mark ?_); first | refine ECall.only ?_ (fun h => nomatch h) | refine ECall.only ?_ ?_) | ((with_reducible refine Drawn.mark ?_); first | refine Drawn.quiet (by kernel_rfl) ?_) | refine dcell_ok rfl ?_ | refine AppC.new ?_))
  all_goals try first | (with_reducible exact tnb h) | exact trivial | (exfalso; exact bt_x he h) | ((with_reducible show (_ == false) = true); first | (rw [n1]; rfl) | rfl) | (intro h; with_reducible exact tnb2 h) | (with_reducible exact tnb2 h) | ((with_reducible show (_ == true) = true); first | (show ((er == 0) == true) = true; rw [he]; rfl) | (rw [hq]; rfl) | rfl) | ((with_reducible show _ → (_ == true) = true); intro h; first | (show ((er == 0) == true) = true; rw [he]; rfl) | (rw [hq]; rfl) | rfl)
  all_goals try first | ((with_reducible show (_ : Nat) ≤ _); exact Nat.le_of_ble_eq_true (by kernel_rfl)) | ((with_reducible show (_ : Nat) < _); exact Nat.le_of_ble_eq_true (by kernel_rfl)) | ((with_reducible show (_ : Nat) = _); kernel_rfl) | ((with_reducible show (_ : Bool) = _); kernel_rfl) | ((with_reducible show (_ : Option _) = _); kernel_rfl) | ((with_reducible refine enters_mark ?_); kernel_rfl) | ((with_reducible show (_ : Int) ≤ _); exact of_decide_eq_true (by kernel_rfl)) | ((with_reducible show (_ : Int) < _); exact of_decide_eq_true (by kernel_rfl))
  all_goals (conv => whnf)
  all_goals exact Tells.mk (DW.same _ rfl)
set_option maxRecDepth 100000 in
set_option maxHeartbeats 4000000 in
theorem texts4_b (c : List Ch) (t : ByteArray) (hc : (c.map gC).sum ≤ 1048576) (ht : t.size ≤ 1048576) (hw : DPure Tryz.prog 9 [] (bl true)) (he : ((parseT t).2.2 == 0) = true) (hf : fitCB c = true) : DPure Tryz.prog 4 [chs c, strV t] (bl true) := by
  have hs := gC_smc hc
  have h15 := parse15_D t (by omega)
  have h16 := parse16_D t (by omega)
  have h8 := chg8_D c hs
  rw [hf] at h8
  obtain ⟨p1, p2⟩ := print_parse (t := t) (beq_iff_eq.1 he)
  have hx : (parseT t).1.length ≤ 1048576 := by have := txt_len (parseT t).1; rw [p1] at this; omega
  have h18 := print18_D (parseT t).1 (smc_of p2 (by omega))
  rw [tp_all, p1] at h18
  have hq0 : (t != t) = false := by unfold bne; rw [ba_eq.2 rfl]; rfl
  generalize hr : parseT t = r at *
  obtain ⟨x, ln, er⟩ := r
  have h17 : DPure Tryz.prog 17 [chs x, chs x] (bl true) := by
    have := same17_D x x (by simp only at hx; omega)
    rw [decide_eq_true rfl] at this; exact this
  have n1 : (ln != ln) = false := bne_self_eq_false ln
  have n2 : (er != er) = false := bne_self_eq_false er
  have hP : (bif bif !true then true else ln != ln then true else er != er) = false := by rw [n1, n2]; rfl
  have he : (er == 0) = true := he
  have hQ : (bif er == 0 then t != t else false) = false := by rw [he, hq0]; rfl
  have hz : (txt c).size ≤ 1600000 := by have h1 := txt_sz c; have h2 := gC_len c; omega
  have h18c := print18_D c hs
  rw [tp_all] at h18c
  have h15c := parse15_D (txt c) hz
  rw [parse_print hf] at h15c
  have h19 := print19_D c hs
  rw [tp_all] at h19
  have h17c : DPure Tryz.prog 17 [chs c, chs c] (bl true) := by
    have := same17_D c c (Nat.le_trans hs.1 (by decide))
    rw [decide_eq_true rfl] at this; exact this
  have hq : (txt c == txt c) = true := ba_eq.2 rfl
  refine DFun.data (DFun.body Tryz.func4 rfl (by kernel_rfl) ?_)
  repeat' (first | with_reducible rfl | ((conv => whnf); first | refine And.intro ?_ ?_ | (intro h; first | with_reducible exact tf_no h | with_reducible exact ft_no h | exact Bool.noConfusion h | with_reducible exact h | (exfalso; exact bt_x hP h) | (exfalso; exact bt_x hQ h) | (have ht : true = true := h; clear ht h) | skip) | ((with_reducible refine SCall.mark ?_); first | refine SCall.data (h15) rfl rfl ?_ | refine SCall.scal (h15) rfl rfl ?_ | refine SCall.data (h16) rfl rfl ?_ | refine SCall.scal (h16) rfl rfl ?_ | refine SCall.data (h17) rfl rfl ?_ | refine SCall.scal (h17) rfl rfl ?_ | refine SCall.data (h8) rfl rfl ?_ | refine SCall.scal (h8) rfl rfl ?_ | refine SCall.data (hw) rfl rfl ?_ | refine SCall.scal (hw) rfl rfl ?_ | refine SCall.data (h18) rfl rfl ?_ | refine SCall.scal (h18) rfl rfl ?_ | refine SCall.data (h18c) rfl rfl ?_ | refine SCall.scal (h18c) rfl rfl ?_ | refine SCall.data (h15c) rfl rfl ?_ | refine SCall.scal (h15c) rfl rfl ?_ | refine SCall.data (h19) rfl rfl ?_ | refine SCall.scal (h19) rfl rfl ?_ | refine SCall.data (h17c) rfl rfl ?_ | refine SCall.scal (h17c) rfl rfl ?_) | ((with_reducible refine PCall.mark ?_); first | refine PCall.mk (h15) rfl rfl ?_ | refine PCall.mk (h16) rfl rfl ?_ | refine PCall.mk (h17) rfl rfl ?_ | refine PCall.mk (h8) rfl rfl ?_ | refine PCall.mk (hw) rfl rfl ?_ | refine PCall.mk (h18) rfl rfl ?_ | refine PCall.mk (h18c) rfl rfl ?_ | refine PCall.mk (h15c) rfl rfl ?_ | refine PCall.mk (h19) rfl rfl ?_ | refine PCall.mk (h17c) rfl rfl ?_) | ((with_reducible refine GCall.mark ?_); first | refine GCall.data (fun _ => h15) rfl rfl ?_ | refine GCall.scal (fun _ => h15) rfl rfl ?_ | refine GCall.data (fun _ => h16) rfl rfl ?_ | refine GCall.scal (fun _ => h16) rfl rfl ?_ | refine GCall.data (fun _ => h17) rfl rfl ?_ | refine GCall.scal (fun _ => h17) rfl rfl ?_ | refine GCall.data (fun _ => h8) rfl rfl ?_ | refine GCall.scal (fun _ => h8) rfl rfl ?_ | refine GCall.data (fun _ => hw) rfl rfl ?_ | refine GCall.scal (fun _ => hw) rfl rfl ?_ | refine GCall.data (fun _ => h18) rfl rfl ?_ | refine GCall.scal (fun _ => h18) rfl rfl ?_ | refine GCall.data (fun _ => h18c) rfl rfl ?_ | refine GCall.scal (fun _ => h18c) rfl rfl ?_ | refine GCall.data (fun _ => h15c) rfl rfl ?_ | refine GCall.scal (fun _ => h15c) rfl rfl ?_ | refine GCall.data (fun _ => h19) rfl rfl ?_ | refine GCall.scal (fun _ => h19) rfl rfl ?_ | refine GCall.data (fun _ => h17c) rfl rfl ?_ | refine GCall.scal (fun _ => h17c) rfl rfl ?_) | ((with_reducible refine MCall.mark ?_); first | refine MCall.data (fun _ => h15) rfl rfl ?_ | refine MCall.plain (PCall.mk (h15) rfl rfl ?_) | refine MCall.data (fun _ => h16) rfl rfl ?_ | refine MCall.plain (PCall.mk (h16) rfl rfl ?_) | refine MCall.data (fun _ => h17) rfl rfl ?_ | refine MCall.plain (PCall.mk (h17) rfl rfl ?_) | refine MCall.data (fun _ => h8) rfl rfl ?_ | refine MCall.plain (PCall.mk (h8) rfl rfl ?_) | refine MCall.data (fun _ => hw) rfl rfl ?_ | refine MCall.plain (PCall.mk (hw) rfl rfl ?_) | refine MCall.data (fun _ => h18) rfl rfl ?_ | refine MCall.plain (PCall.mk (h18) rfl rfl ?_) | refine MCall.data (fun _ => h18c) rfl rfl ?_ | refine MCall.plain (PCall.mk (h18c) rfl rfl ?_) | refine MCall.data (fun _ => h15c) rfl rfl ?_ | refine MCall.plain (PCall.mk (h15c) rfl rfl ?_) | refine MCall.data (fun _ => h19) rfl rfl ?_ | refine MCall.plain (PCall.mk (h19) rfl rfl ?_) | refine MCall.data (fun _ => h17c) rfl rfl ?_ | refine MCall.plain (PCall.mk (h17c) rfl rfl ?_)) | ((with_reducible refine ex_mark ?_); first | refine dq_eql kF ?_ rfl ?_ rfl rfl ?_ | refine dq_neq kF ?_ rfl ?_ rfl rfl ?_) | ((with_reducible refine ECall.mark ?_); first | refine ECall.only ?_ (fun h => nomatch h) | refine ECall.only ?_ ?_) | ((with_reducible refine Drawn.mark ?_); first | refine Drawn.quiet (by kernel_rfl) ?_) | refine dcell_ok rfl ?_ | refine AppC.new ?_))
  all_goals try first | (with_reducible exact tnb h) | exact trivial | (exfalso; exact bt_x he h) | ((with_reducible show (_ == false) = true); first | (rw [n1]; rfl) | rfl) | (intro h; with_reducible exact tnb2 h) | (with_reducible exact tnb2 h) | ((with_reducible show (_ == true) = true); first | (show ((er == 0) == true) = true; rw [he]; rfl) | (rw [hq]; rfl) | rfl) | ((with_reducible show _ → (_ == true) = true); intro h; first | (show ((er == 0) == true) = true; rw [he]; rfl) | (rw [hq]; rfl) | rfl)
  all_goals try first | ((with_reducible show (_ : Nat) ≤ _); exact Nat.le_of_ble_eq_true (by kernel_rfl)) | ((with_reducible show (_ : Nat) < _); exact Nat.le_of_ble_eq_true (by kernel_rfl)) | ((with_reducible show (_ : Nat) = _); kernel_rfl) | ((with_reducible show (_ : Bool) = _); kernel_rfl) | ((with_reducible show (_ : Option _) = _); kernel_rfl) | ((with_reducible refine enters_mark ?_); kernel_rfl) | ((with_reducible show (_ : Int) ≤ _); exact of_decide_eq_true (by kernel_rfl)) | ((with_reducible show (_ : Int) < _); exact of_decide_eq_true (by kernel_rfl))
  all_goals (conv => whnf)
  all_goals refine Tells.mk (DW.bool ?_)
  all_goals (rw [hq]; rfl)
set_option maxRecDepth 100000 in
set_option maxHeartbeats 4000000 in
theorem texts4_c (c : List Ch) (t : ByteArray) (hc : (c.map gC).sum ≤ 1048576) (ht : t.size ≤ 1048576) (hw : DPure Tryz.prog 9 [] (bl true)) (he : ((parseT t).2.2 == 0) = false) (hf : fitCB c = false) : DPure Tryz.prog 4 [chs c, strV t] (bl true) := by
  have hs := gC_smc hc
  have hxl := err_len he
  have h15 := parse15_D t (by omega)
  have h16 := parse16_D t (by omega)
  have h8 := chg8_D c hs
  rw [hf] at h8
  generalize hr : parseT t = r at *
  obtain ⟨x, ln, er⟩ := r
  have h17 : DPure Tryz.prog 17 [chs x, chs x] (bl true) := by
    have := same17_D x x (by exact hxl)
    rw [decide_eq_true rfl] at this; exact this
  have n1 : (ln != ln) = false := bne_self_eq_false ln
  have n2 : (er != er) = false := bne_self_eq_false er
  have hP : (bif bif !true then true else ln != ln then true else er != er) = false := by rw [n1, n2]; rfl
  have he : (er == 0) = false := he
  have hQ : ∀ b : Bool, (bif er == 0 then b else false) = false := fun b => by rw [he]; rfl
  refine DFun.data (DFun.body Tryz.func4 rfl (by kernel_rfl) ?_)
  repeat' (first | with_reducible rfl | ((conv => whnf); first | refine And.intro ?_ ?_ | (intro h; first | with_reducible exact tf_no h | with_reducible exact ft_no h | exact Bool.noConfusion h | with_reducible exact h | (exfalso; exact bt_x hP h) | (exfalso; exact bt_x (hQ _) h) | (exfalso; exact bt_x he h) | (have ht : true = true := h; clear ht h) | skip) | ((with_reducible refine SCall.mark ?_); first | refine SCall.data (h15) rfl rfl ?_ | refine SCall.scal (h15) rfl rfl ?_ | refine SCall.data (h16) rfl rfl ?_ | refine SCall.scal (h16) rfl rfl ?_ | refine SCall.data (h17) rfl rfl ?_ | refine SCall.scal (h17) rfl rfl ?_ | refine SCall.data (h8) rfl rfl ?_ | refine SCall.scal (h8) rfl rfl ?_ | refine SCall.data (hw) rfl rfl ?_ | refine SCall.scal (hw) rfl rfl ?_) | ((with_reducible refine PCall.mark ?_); first | refine PCall.mk (h15) rfl rfl ?_ | refine PCall.mk (h16) rfl rfl ?_ | refine PCall.mk (h17) rfl rfl ?_ | refine PCall.mk (h8) rfl rfl ?_ | refine PCall.mk (hw) rfl rfl ?_) | ((with_reducible refine GCall.mark ?_); first | refine GCall.data (fun _ => h15) rfl rfl ?_ | refine GCall.scal (fun _ => h15) rfl rfl ?_ | refine GCall.data (fun _ => h16) rfl rfl ?_ | refine GCall.scal (fun _ => h16) rfl rfl ?_ | refine GCall.data (fun _ => h17) rfl rfl ?_ | refine GCall.scal (fun _ => h17) rfl rfl ?_ | refine GCall.data (fun _ => h8) rfl rfl ?_ | refine GCall.scal (fun _ => h8) rfl rfl ?_ | refine GCall.data (fun _ => hw) rfl rfl ?_ | refine GCall.scal (fun _ => hw) rfl rfl ?_ | refine GCall.none (show (er == 0 && true) = false by rw [he]; rfl) ?_ | refine GCall.none (show ((er == 0) == true) = false by rw [he]; rfl) ?_) | ((with_reducible refine MCall.mark ?_); first | refine MCall.data (fun _ => h15) rfl rfl ?_ | refine MCall.plain (PCall.mk (h15) rfl rfl ?_) | refine MCall.data (fun _ => h16) rfl rfl ?_ | refine MCall.plain (PCall.mk (h16) rfl rfl ?_) | refine MCall.data (fun _ => h17) rfl rfl ?_ | refine MCall.plain (PCall.mk (h17) rfl rfl ?_) | refine MCall.data (fun _ => h8) rfl rfl ?_ | refine MCall.plain (PCall.mk (h8) rfl rfl ?_) | refine MCall.data (fun _ => hw) rfl rfl ?_ | refine MCall.plain (PCall.mk (hw) rfl rfl ?_)) | ((with_reducible refine ex_mark ?_); first | refine dq_eql kF ?_ rfl ?_ rfl rfl ?_ | refine dq_neq kF ?_ rfl ?_ rfl rfl ?_ | refine dq_off (show ((er == 0) == true) = false by rw [he]; rfl) ?_) | ((with_reducible refine ECall.mark ?_); first | refine ECall.only ?_ (fun h => nomatch h) | refine ECall.only ?_ ?_) | ((with_reducible refine Drawn.mark ?_); first | refine Drawn.quiet (by kernel_rfl) ?_) | refine dcell_ok rfl ?_ | refine AppC.new ?_))
  all_goals try first | (with_reducible exact tnb h) | exact trivial | (exfalso; exact bt_x he h) | ((with_reducible show (_ == false) = true); first | (rw [n1]; rfl) | rfl) | (intro h; with_reducible exact tnb2 h) | (with_reducible exact tnb2 h) | ((with_reducible show (_ == true) = true); first | (show ((er == 0) == true) = true; rw [he]; rfl) | (rw [hq]; rfl) | rfl) | ((with_reducible show _ → (_ == true) = true); intro h; first | (show ((er == 0) == true) = true; rw [he]; rfl) | (rw [hq]; rfl) | rfl)
  all_goals try first | ((with_reducible show (_ : Nat) ≤ _); exact Nat.le_of_ble_eq_true (by kernel_rfl)) | ((with_reducible show (_ : Nat) < _); exact Nat.le_of_ble_eq_true (by kernel_rfl)) | ((with_reducible show (_ : Nat) = _); kernel_rfl) | ((with_reducible show (_ : Bool) = _); kernel_rfl) | ((with_reducible show (_ : Option _) = _); kernel_rfl) | ((with_reducible refine enters_mark ?_); kernel_rfl) | ((with_reducible show (_ : Int) ≤ _); exact of_decide_eq_true (by kernel_rfl)) | ((with_reducible show (_ : Int) < _); exact of_decide_eq_true (by kernel_rfl))
  all_goals (conv => whnf)
  all_goals exact Tells.mk (DW.same _ rfl)
set_option maxRecDepth 100000 in
set_option maxHeartbeats 4000000 in
theorem texts4_d (c : List Ch) (t : ByteArray) (hc : (c.map gC).sum ≤ 1048576) (ht : t.size ≤ 1048576) (hw : DPure Tryz.prog 9 [] (bl true)) (he : ((parseT t).2.2 == 0) = false) (hf : fitCB c = true) : DPure Tryz.prog 4 [chs c, strV t] (bl true) := by
  have hs := gC_smc hc
  have hxl := err_len he
  have h15 := parse15_D t (by omega)
  have h16 := parse16_D t (by omega)
  have h8 := chg8_D c hs
  rw [hf] at h8
  generalize hr : parseT t = r at *
  obtain ⟨x, ln, er⟩ := r
  have h17 : DPure Tryz.prog 17 [chs x, chs x] (bl true) := by
    have := same17_D x x (by exact hxl)
    rw [decide_eq_true rfl] at this; exact this
  have n1 : (ln != ln) = false := bne_self_eq_false ln
  have n2 : (er != er) = false := bne_self_eq_false er
  have hP : (bif bif !true then true else ln != ln then true else er != er) = false := by rw [n1, n2]; rfl
  have he : (er == 0) = false := he
  have hQ : ∀ b : Bool, (bif er == 0 then b else false) = false := fun b => by rw [he]; rfl
  have hz : (txt c).size ≤ 1600000 := by have h1 := txt_sz c; have h2 := gC_len c; omega
  have h18c := print18_D c hs
  rw [tp_all] at h18c
  have h15c := parse15_D (txt c) hz
  rw [parse_print hf] at h15c
  have h19 := print19_D c hs
  rw [tp_all] at h19
  have h17c : DPure Tryz.prog 17 [chs c, chs c] (bl true) := by
    have := same17_D c c (Nat.le_trans hs.1 (by decide))
    rw [decide_eq_true rfl] at this; exact this
  have hq : (txt c == txt c) = true := ba_eq.2 rfl
  refine DFun.data (DFun.body Tryz.func4 rfl (by kernel_rfl) ?_)
  repeat' (first | with_reducible rfl | ((conv => whnf); first | refine And.intro ?_ ?_ | (intro h; first | with_reducible exact tf_no h | with_reducible exact ft_no h | exact Bool.noConfusion h | with_reducible exact h | (exfalso; exact bt_x hP h) | (exfalso; exact bt_x (hQ _) h) | (exfalso; exact bt_x he h) | (have ht : true = true := h; clear ht h) | skip) | ((with_reducible refine SCall.mark ?_); first | refine SCall.data (h15) rfl rfl ?_ | refine SCall.scal (h15) rfl rfl ?_ | refine SCall.data (h16) rfl rfl ?_ | refine SCall.scal (h16) rfl rfl ?_ | refine SCall.data (h17) rfl rfl ?_ | refine SCall.scal (h17) rfl rfl ?_ | refine SCall.data (h8) rfl rfl ?_ | refine SCall.scal (h8) rfl rfl ?_ | refine SCall.data (hw) rfl rfl ?_ | refine SCall.scal (hw) rfl rfl ?_ | refine SCall.data (h18c) rfl rfl ?_ | refine SCall.scal (h18c) rfl rfl ?_ | refine SCall.data (h15c) rfl rfl ?_ | refine SCall.scal (h15c) rfl rfl ?_ | refine SCall.data (h19) rfl rfl ?_ | refine SCall.scal (h19) rfl rfl ?_ | refine SCall.data (h17c) rfl rfl ?_ | refine SCall.scal (h17c) rfl rfl ?_) | ((with_reducible refine PCall.mark ?_); first | refine PCall.mk (h15) rfl rfl ?_ | refine PCall.mk (h16) rfl rfl ?_ | refine PCall.mk (h17) rfl rfl ?_ | refine PCall.mk (h8) rfl rfl ?_ | refine PCall.mk (hw) rfl rfl ?_ | refine PCall.mk (h18c) rfl rfl ?_ | refine PCall.mk (h15c) rfl rfl ?_ | refine PCall.mk (h19) rfl rfl ?_ | refine PCall.mk (h17c) rfl rfl ?_) | ((with_reducible refine GCall.mark ?_); first | refine GCall.data (fun _ => h15) rfl rfl ?_ | refine GCall.scal (fun _ => h15) rfl rfl ?_ | refine GCall.data (fun _ => h16) rfl rfl ?_ | refine GCall.scal (fun _ => h16) rfl rfl ?_ | refine GCall.data (fun _ => h17) rfl rfl ?_ | refine GCall.scal (fun _ => h17) rfl rfl ?_ | refine GCall.data (fun _ => h8) rfl rfl ?_ | refine GCall.scal (fun _ => h8) rfl rfl ?_ | refine GCall.data (fun _ => hw) rfl rfl ?_ | refine GCall.scal (fun _ => hw) rfl rfl ?_ | refine GCall.none (show (er == 0 && true) = false by rw [he]; rfl) ?_ | refine GCall.none (show ((er == 0) == true) = false by rw [he]; rfl) ?_ | refine GCall.data (fun _ => h18c) rfl rfl ?_ | refine GCall.scal (fun _ => h18c) rfl rfl ?_ | refine GCall.data (fun _ => h15c) rfl rfl ?_ | refine GCall.scal (fun _ => h15c) rfl rfl ?_ | refine GCall.data (fun _ => h19) rfl rfl ?_ | refine GCall.scal (fun _ => h19) rfl rfl ?_ | refine GCall.data (fun _ => h17c) rfl rfl ?_ | refine GCall.scal (fun _ => h17c) rfl rfl ?_) | ((with_reducible refine MCall.mark ?_); first | refine MCall.data (fun _ => h15) rfl rfl ?_ | refine MCall.plain (PCall.mk (h15) rfl rfl ?_) | refine MCall.data (fun _ => h16) rfl rfl ?_ | refine MCall.plain (PCall.mk (h16) rfl rfl ?_) | refine MCall.data (fun _ => h17) rfl rfl ?_ | refine MCall.plain (PCall.mk (h17) rfl rfl ?_) | refine MCall.data (fun _ => h8) rfl rfl ?_ | refine MCall.plain (PCall.mk (h8) rfl rfl ?_) | refine MCall.data (fun _ => hw) rfl rfl ?_ | refine MCall.plain (PCall.mk (hw) rfl rfl ?_) | refine MCall.data (fun _ => h18c) rfl rfl ?_ | refine MCall.plain (PCall.mk (h18c) rfl rfl ?_) | refine MCall.data (fun _ => h15c) rfl rfl ?_ | refine MCall.plain (PCall.mk (h15c) rfl rfl ?_) | refine MCall.data (fun _ => h19) rfl rfl ?_ | refine MCall.plain (PCall.mk (h19) rfl rfl ?_) | refine MCall.data (fun _ => h17c) rfl rfl ?_ | refine MCall.plain (PCall.mk (h17c) rfl rfl ?_)) | ((with_reducible refine ex_mark ?_); first | refine dq_eql kF ?_ rfl ?_ rfl rfl ?_ | refine dq_neq kF ?_ rfl ?_ rfl rfl ?_ | refine dq_off (show ((er == 0) == true) = false by rw [he]; rfl) ?_) | ((with_reducible refine ECall.mark ?_); first | refine ECall.only ?_ (fun h => nomatch h) | refine ECall.only ?_ ?_) | ((with_reducible refine Drawn.mark ?_); first | refine Drawn.quiet (by kernel_rfl) ?_) | refine dcell_ok rfl ?_ | refine AppC.new ?_))
  all_goals try first | (with_reducible exact tnb h) | exact trivial | (exfalso; exact bt_x he h) | ((with_reducible show (_ == false) = true); first | (rw [n1]; rfl) | rfl) | (intro h; with_reducible exact tnb2 h) | (with_reducible exact tnb2 h) | ((with_reducible show (_ == true) = true); first | (show ((er == 0) == true) = true; rw [he]; rfl) | (rw [hq]; rfl) | rfl) | ((with_reducible show _ → (_ == true) = true); intro h; first | (show ((er == 0) == true) = true; rw [he]; rfl) | (rw [hq]; rfl) | rfl)
  all_goals try first | ((with_reducible show (_ : Nat) ≤ _); exact Nat.le_of_ble_eq_true (by kernel_rfl)) | ((with_reducible show (_ : Nat) < _); exact Nat.le_of_ble_eq_true (by kernel_rfl)) | ((with_reducible show (_ : Nat) = _); kernel_rfl) | ((with_reducible show (_ : Bool) = _); kernel_rfl) | ((with_reducible show (_ : Option _) = _); kernel_rfl) | ((with_reducible refine enters_mark ?_); kernel_rfl) | ((with_reducible show (_ : Int) ≤ _); exact of_decide_eq_true (by kernel_rfl)) | ((with_reducible show (_ : Int) < _); exact of_decide_eq_true (by kernel_rfl))
  all_goals (conv => whnf)
  all_goals refine Tells.mk (DW.bool ?_)
  all_goals (rw [hq]; rfl)
theorem texts4_D (c : List Ch) (t : ByteArray) (hc : (c.map gC).sum ≤ 1048576) (ht : t.size ≤ 1048576) (hw : DPure Tryz.prog 9 [] (bl true)) : DPure Tryz.prog 4 [chs c, strV t] (bl true) := by
  by_cases he : ((parseT t).2.2 == 0) = true
  · by_cases hf : fitCB c = true
    · exact texts4_b c t hc ht hw he hf
    · exact texts4_a c t hc ht hw he (eq_false_of_ne_true hf)
  · by_cases hf : fitCB c = true
    · exact texts4_d c t hc ht hw (eq_false_of_ne_true he) hf
    · exact texts4_c c t hc ht hw (eq_false_of_ne_true he) (eq_false_of_ne_true hf)
end Go.Proofs.YtagfmppjlfhmeaaGreatDoor


