/- The law of changes done. -/
import Derived.Test.YtagfmppjlfhmeaaGreatDoorPkG
import Derived.Test.YtagfmppjlfhmeaaGreatDoorPkK

namespace Go.Proofs.YtagfmppjlfhmeaaGreatDoor
open Go.RowKit Go.Dl
attribute [local irreducible] Tri SCall TSem ECall Drawn DFun QSem PSem PCall GCall MCall Round Weak dloadE OW DWl Tells IntKind.wrap Retold ESem
def spoB : ByteArray := ⟨#[115, 112, 111, 105, 108, 116]⟩
structure Vi where
  k : Nat
  r : List Lf
def spo (r : List Lf) (k : Nat) : List Lf := r.set k ⟨(r.getD k lf0).p, spoB⟩
theorem set_row : ∀ (r : List Lf) (k : Nat), k < r.length → setMany (rowL r) (k * 2 + 1) [strV spoB] = rowL (spo r k)
  | [], _, h => by cases h
  | x :: r, 0, _ => rfl
  | x :: r, k + 1, h => by
    have ih := set_row r k (by simpa using h)
    have e : (k + 1) * 2 + 1 = (k * 2 + 1) + 2 := by omega
    rw [e, rowL_cons]
    show strV x.p :: strV x.v :: setMany (rowL r) (k * 2 + 1) [strV spoB] = _
    rw [ih]; rfl
theorem rowL_eq (l : List Lf) : rowL l = (l.map lfD).flatten := rfl
theorem spo_len (r : List Lf) (k : Nat) : (spo r k).length = r.length := by unfold spo; rw [List.length_set]
def viSt (l : List Lf) (n : Nat) (i : Vi) : St := ⟨0, tmOf [(0, lfs l), (5, lfs l), (6, .arr 0 n), (10, int1 i.k)], .of [(0, ⟨35, 2, rowL i.r⟩)] 1⟩
attribute [local irreducible] spo rowL
set_option maxRecDepth 100000 in
set_option maxHeartbeats 2000000 in
theorem applies3_y (l : List Lf) (c : List Ch) (hl : SmL l) (hc : SmC c) (hn : l.length + c.length ≤ 1048576) (hw : DPure Tryz.prog 9 [] (bl true)) (h1 : fitLB l = true) (h2 : fitCB c = true) : DPure Tryz.prog 3 [lfs l, chs c] (bl true) := by
  have ll : l.length ≤ 4194304 := hl.1
  have lc : c.length ≤ 4194304 := hc.1
  have f1 := fit7_D l hl
  have f2 := chg8_D c hc
  rw [h1] at f1
  rw [h2] at f2
  have k1 := fitL_iff.1 h1
  have k2 := fitC_iff.1 h2
  have la := app_len l c
  have c1 := leaves10_D l ll
  have c2 := apply12_D l c ll lc
  have kr := app_fit k1 k2
  have s1 := same13_D (appT l c).1 (appT l c).1 (by omega)
  have t1 := fit14_D (appT l c).1 (sml_fit kr (by omega))
  rw [fitL_iff.2 kr] at t1
  have s2 := same13_D l l (by omega)
  rw [decide_eq_true rfl] at s1 s2
  have hQ : (bif bif !true then true else (appT l c).2 != (appT l c).2 then true else !true) = false := by rw [bne_self_eq_false]; rfl
  have hlr : (appT l c).1.length ≤ 9223372036854775807 := by omega
  refine DFun.data (DFun.body Tryz.func3 rfl (by kernel_rfl) ?_)
  repeat' (first | with_reducible rfl | ((conv => whnf); first | refine And.intro ?_ ?_ | (intro h; first | with_reducible exact tf_no h | with_reducible exact ft_no h | exact Bool.noConfusion h | with_reducible exact h | (exfalso; exact bt_x hQ h) | (have ht : true = true := h; clear ht h) | skip) | ((with_reducible refine DWl.mark ?_); repeat' (first | refine DWl.cons ?_ ?_ | exact DWl.nil | exact DW.same _ rfl | exact DW.ref _ _ _ rfl | exact DW.arr _ _ _ rfl | exact DW.sub _ _ _ _ rfl | exact DW.mo _ _ rfl | exact DW.nilLst _ | refine DW.aggl ?_ | refine DW.tupl ?_ | refine DW.clol ?_ ?_ | exact DW.pubM (l := (appT l c).1) (f := lfD) rfl rfl rfl rfl lfRow (rowL_eq _) | refine DW.int ?_ | refine DW.bool ?_ | refine DW.str ?_)) | ((with_reducible refine SCall.mark ?_); first | refine SCall.data (f1) rfl rfl ?_ | refine SCall.scal (f1) rfl rfl ?_ | refine SCall.data (f2) rfl rfl ?_ | refine SCall.scal (f2) rfl rfl ?_ | refine SCall.data (c1) rfl rfl ?_ | refine SCall.scal (c1) rfl rfl ?_ | refine SCall.data (c2) rfl rfl ?_ | refine SCall.scal (c2) rfl rfl ?_ | refine apply11_K l c ll lc ?_ | (refine SCall.scalT (s1) ?dwq rfl ?_; case dwq => (repeat' (first | refine DWl.cons ?_ ?_ | exact DWl.nil | exact DW.same _ rfl | exact DW.ref _ _ _ rfl | exact DW.arr _ _ _ rfl | exact DW.sub _ _ _ _ rfl | exact DW.mo _ _ rfl | exact DW.nilLst _ | refine DW.aggl ?_ | refine DW.tupl ?_ | refine DW.clol ?_ ?_ | exact DW.pubM (l := (appT l c).1) (f := lfD) rfl rfl rfl rfl lfRow (rowL_eq _) | refine DW.int ?_ | refine DW.bool ?_ | refine DW.str ?_))) | (refine SCall.scalT (t1) ?dwq rfl ?_; case dwq => (repeat' (first | refine DWl.cons ?_ ?_ | exact DWl.nil | exact DW.same _ rfl | exact DW.ref _ _ _ rfl | exact DW.arr _ _ _ rfl | exact DW.sub _ _ _ _ rfl | exact DW.mo _ _ rfl | exact DW.nilLst _ | refine DW.aggl ?_ | refine DW.tupl ?_ | refine DW.clol ?_ ?_ | exact DW.pubM (l := (appT l c).1) (f := lfD) rfl rfl rfl rfl lfRow (rowL_eq _) | refine DW.int ?_ | refine DW.bool ?_ | refine DW.str ?_))) | refine SCall.data (hw) rfl rfl ?_ | refine SCall.scal (hw) rfl rfl ?_ | refine SCall.data (s2) rfl rfl ?_ | refine SCall.scal (s2) rfl rfl ?_) | ((with_reducible refine PCall.mark ?_); first | refine PCall.mk (f1) rfl rfl ?_ | refine PCall.mk (f2) rfl rfl ?_ | refine PCall.mk (c1) rfl rfl ?_ | refine PCall.mk (c2) rfl rfl ?_ | refine PCall.mk (hw) rfl rfl ?_ | refine PCall.mk (s2) rfl rfl ?_) | ((with_reducible refine GCall.mark ?_); first | refine GCall.data (fun _ => f1) rfl rfl ?_ | refine GCall.scal (fun _ => f1) rfl rfl ?_ | refine GCall.data (fun _ => f2) rfl rfl ?_ | refine GCall.scal (fun _ => f2) rfl rfl ?_ | refine GCall.data (fun _ => c1) rfl rfl ?_ | refine GCall.scal (fun _ => c1) rfl rfl ?_ | refine GCall.data (fun _ => c2) rfl rfl ?_ | refine GCall.scal (fun _ => c2) rfl rfl ?_ | (refine GCall.scalT (fun _ => s1) ?dwq rfl ?_; case dwq => (intro _; repeat' (first | refine DWl.cons ?_ ?_ | exact DWl.nil | exact DW.same _ rfl | exact DW.ref _ _ _ rfl | exact DW.arr _ _ _ rfl | exact DW.sub _ _ _ _ rfl | exact DW.mo _ _ rfl | exact DW.nilLst _ | refine DW.aggl ?_ | refine DW.tupl ?_ | refine DW.clol ?_ ?_ | exact DW.pubM (l := (appT l c).1) (f := lfD) rfl rfl rfl rfl lfRow (rowL_eq _) | refine DW.int ?_ | refine DW.bool ?_ | refine DW.str ?_))) | (refine GCall.scalT (fun _ => t1) ?dwq rfl ?_; case dwq => (intro _; repeat' (first | refine DWl.cons ?_ ?_ | exact DWl.nil | exact DW.same _ rfl | exact DW.ref _ _ _ rfl | exact DW.arr _ _ _ rfl | exact DW.sub _ _ _ _ rfl | exact DW.mo _ _ rfl | exact DW.nilLst _ | refine DW.aggl ?_ | refine DW.tupl ?_ | refine DW.clol ?_ ?_ | exact DW.pubM (l := (appT l c).1) (f := lfD) rfl rfl rfl rfl lfRow (rowL_eq _) | refine DW.int ?_ | refine DW.bool ?_ | refine DW.str ?_))) | refine GCall.data (fun _ => hw) rfl rfl ?_ | refine GCall.scal (fun _ => hw) rfl rfl ?_ | refine GCall.data (fun _ => s2) rfl rfl ?_ | refine GCall.scal (fun _ => s2) rfl rfl ?_) | ((with_reducible refine MCall.mark ?_); first | refine MCall.data (fun _ => f1) rfl rfl ?_ | refine MCall.plain (PCall.mk (f1) rfl rfl ?_) | refine MCall.data (fun _ => f2) rfl rfl ?_ | refine MCall.plain (PCall.mk (f2) rfl rfl ?_) | refine MCall.data (fun _ => c1) rfl rfl ?_ | refine MCall.plain (PCall.mk (c1) rfl rfl ?_) | refine MCall.data (fun _ => c2) rfl rfl ?_ | refine MCall.plain (PCall.mk (c2) rfl rfl ?_) | refine MCall.data (fun _ => hw) rfl rfl ?_ | refine MCall.plain (PCall.mk (hw) rfl rfl ?_) | refine MCall.data (fun _ => s2) rfl rfl ?_ | refine MCall.plain (PCall.mk (s2) rfl rfl ?_)) | ((with_reducible refine ECall.mark ?_); first | refine ECall.only ?_ (fun h => nomatch h) | refine ECall.only ?_ ?_) | ((with_reducible refine Drawn.mark ?_); first | refine Drawn.quiet (by kernel_rfl) ?_) | refine dcell_ok rfl ?_ | refine AppC.new ?_))
  all_goals try first | ((with_reducible show Option.isSome (slElem _ _) = true); kernel_rfl) | ((with_reducible show slElem _ _ = some _); kernel_rfl) | ((with_reducible refine enters_mark ?_); kernel_rfl) | (with_reducible assumption) | ((with_reducible show List.all _ DV.one = true); rfl) | ((with_reducible show (_ : Nat) = _); rfl) | ((with_reducible show (_ == true) = true); first | (simp; done) | simpa using h) | ((with_reducible show (_ : Nat) ≤ _); exact Nat.le_of_ble_eq_true rfl) | ((with_reducible show (_ : Int) ≤ _); first | omega | decide) | ((with_reducible show (_ : Int) < _); first | omega | decide) | ((with_reducible show (_ : Nat) < _); omega) | ((with_reducible show (_ : Nat) ≤ _); omega)
  all_goals try (first | ((with_reducible show (_ : Nat) < List.length [_, _]); exact lt2' _ _ (by decide)) | ((with_reducible show (_ == false) = true); rfl) | (with_reducible exact tnb h))
  conv => whnf
  refine Tri.loop (viSt l (appT l c).1.length) (fun i => i.k ≤ (appT l c).1.length ∧ i.r.length = (appT l c).1.length) (fun i => (appT l c).1.length - i.k) ⟨0, (appT l c).1⟩ (by kernel_rfl) (Weak.list [(0, some 0)] [] (by kernel_rfl) ?_ ?_) ⟨Nat.zero_le _, rfl⟩ ?_
  iterate 2 · repeat' (first | exact DWl.same (rowL_all _) | exact DW.same _ rfl | exact DW.ref _ _ _ rfl | exact DW.arr _ _ _ rfl | exact OW.cells rfl rfl (DWl.same rfl) | refine OW.cells rfl rfl ?_ | refine DWl.cons ?_ ?_ | exact DWl.nil | exact DW.nilArr _ rfl | exact DW.nilLst _ | refine DW.clol ?_ ?_ | refine DW.aggl ?_ | refine DW.tupl ?_ | refine DW.int ?_ | refine DW.bool ?_ | refine DW.str ?_ | refine DW.arrE rfl ?_ | ((conv => whnf); first | refine And.intro ?_ ?_ | trivial))
  intro i hi
  obtain ⟨k, r⟩ := i
  obtain ⟨hi1, hi2⟩ := hi
  simp only at hi1 hi2
  show dcode _ _ _ _ (viSt l (appT l c).1.length ⟨k, r⟩) _
  by_cases hk : k < (appT l c).1.length
  · have hdk : decide ((k : Int) < (((appT l c).1.length : Nat) : Int)) = true := decide_eq_true (by omega)
    repeat' (first | with_reducible rfl | ((conv => whnf); first | refine And.intro ?_ ?_ | (intro h; first | with_reducible exact tf_no h | with_reducible exact ft_no h | exact Bool.noConfusion h | with_reducible exact h | (exfalso; exact bt_x hdk h) | (have ht : true = true := h; clear ht h) | skip) | ((with_reducible refine ECall.mark ?_); first | refine ECall.only ?_ (fun h => nomatch h) | refine ECall.only ?_ ?_) | ((with_reducible refine Drawn.mark ?_); first | refine Drawn.quiet (by kernel_rfl) ?_) | refine dcell_ok rfl ?_ | refine AppC.new ?_))
    all_goals try ((conv => whnf); with_reducible refine Round.mark ?_)
    all_goals try first | ((with_reducible show Option.isSome (slElem _ _) = true); kernel_rfl) | ((with_reducible show slElem _ _ = some _); kernel_rfl) | ((with_reducible refine enters_mark ?_); kernel_rfl) | (with_reducible assumption) | ((with_reducible show List.all _ DV.one = true); rfl) | ((with_reducible show (_ : Nat) = _); rfl) | ((with_reducible show (_ == true) = true); first | (simp; done) | simpa using h) | ((with_reducible show (_ : Nat) ≤ _); exact Nat.le_of_ble_eq_true rfl) | ((with_reducible show (_ : Int) ≤ _); first | omega | decide) | ((with_reducible show (_ : Int) < _); first | omega | decide) | ((with_reducible show (_ : Nat) < _); omega) | ((with_reducible show (_ : Nat) ≤ _); omega)
    · show (k : Int) < _; omega
    · show k * 2 + 1 + 1 ≤ (rowL r).length
      rw [rowL_len]; omega
    · refine Round.go (fun _ => Vi.mk (k + 1) (spo r k)) ⟨hk, by show (spo r k).length = _; rw [spo_len]; exact hi2⟩ (by show (appT l c).1.length - (k + 1) < (appT l c).1.length - k; omega) (Weak.list [(0, some 0)] [] (by kernel_rfl) ?_ ?_)
      iterate 2 · repeat' (first | exact wsucc hk hlr | exact DWl.eq (set_row r k (by omega)) (rowL_all _) | exact DW.same _ rfl | exact DW.ref _ _ _ rfl | exact DW.arr _ _ _ rfl | exact OW.cells rfl rfl (DWl.same rfl) | refine OW.cells rfl rfl ?_ | refine DWl.cons ?_ ?_ | exact DWl.nil | exact DW.nilArr _ rfl | exact DW.nilLst _ | refine DW.clol ?_ ?_ | refine DW.aggl ?_ | refine DW.tupl ?_ | refine DW.int ?_ | refine DW.bool ?_ | refine DW.str ?_ | refine DW.arrE rfl ?_ | ((conv => whnf); first | refine And.intro ?_ ?_ | trivial))
  · have hdk : decide ((k : Int) < (((appT l c).1.length : Nat) : Int)) = false := decide_eq_false (by omega)
    repeat' (first | with_reducible rfl | ((conv => whnf); first | refine And.intro ?_ ?_ | (intro h; first | with_reducible exact tf_no h | with_reducible exact ft_no h | exact Bool.noConfusion h | with_reducible exact h | (exfalso; exact bt_x hdk h) | (have ht : true = true := h; clear ht h) | skip) | ((with_reducible refine SCall.mark ?_); first | refine SCall.data (s2) rfl rfl ?_ | refine SCall.scal (s2) rfl rfl ?_ | refine SCall.data (hw) rfl rfl ?_ | refine SCall.scal (hw) rfl rfl ?_) | ((with_reducible refine PCall.mark ?_); first | refine PCall.mk (s2) rfl rfl ?_ | refine PCall.mk (hw) rfl rfl ?_) | ((with_reducible refine GCall.mark ?_); first | refine GCall.data (fun _ => s2) rfl rfl ?_ | refine GCall.scal (fun _ => s2) rfl rfl ?_ | refine GCall.data (fun _ => hw) rfl rfl ?_ | refine GCall.scal (fun _ => hw) rfl rfl ?_) | ((with_reducible refine MCall.mark ?_); first | refine MCall.data (fun _ => s2) rfl rfl ?_ | refine MCall.plain (PCall.mk (s2) rfl rfl ?_) | refine MCall.data (fun _ => hw) rfl rfl ?_ | refine MCall.plain (PCall.mk (hw) rfl rfl ?_)) | ((with_reducible refine ECall.mark ?_); first | refine ECall.only ?_ (fun h => nomatch h) | refine ECall.only ?_ ?_) | ((with_reducible refine Drawn.mark ?_); first | refine Drawn.quiet (by kernel_rfl) ?_) | refine dcell_ok rfl ?_ | refine AppC.new ?_))
    all_goals try first | ((with_reducible show Option.isSome (slElem _ _) = true); kernel_rfl) | ((with_reducible show slElem _ _ = some _); kernel_rfl) | ((with_reducible refine enters_mark ?_); kernel_rfl) | (with_reducible assumption) | ((with_reducible show List.all _ DV.one = true); rfl) | ((with_reducible show (_ : Nat) = _); rfl) | ((with_reducible show (_ == true) = true); first | (simp; done) | simpa using h) | ((with_reducible show (_ : Nat) ≤ _); exact Nat.le_of_ble_eq_true rfl) | ((with_reducible show (_ : Int) ≤ _); first | omega | decide) | ((with_reducible show (_ : Int) < _); first | omega | decide) | ((with_reducible show (_ : Nat) < _); omega) | ((with_reducible show (_ : Nat) ≤ _); omega)
    all_goals (conv => whnf)
    all_goals exact Tells.mk (DW.same _ rfl)
theorem applies3_D (l : List Lf) (c : List Ch) (hl : SmL l) (hc : SmC c) (hn : l.length + c.length ≤ 1048576) (hw : DPure Tryz.prog 9 [] (bl true)) : DPure Tryz.prog 3 [lfs l, chs c] (bl true) := by
  have f1 := fit7_D l hl
  have f2 := chg8_D c hc
  by_cases h1 : fitLB l = true
  · by_cases h2 : fitCB c = true
    · exact applies3_y l c hl hc hn hw h1 h2
    · rw [eq_false_of_ne_true h2] at f2
      rw [h1] at f1
      refine DFun.data (DFun.body Tryz.func3 rfl (by kernel_rfl) ?_)
      repeat' (first | with_reducible rfl | ((conv => whnf); first | refine And.intro ?_ ?_ | (intro h; first | with_reducible exact tf_no h | with_reducible exact ft_no h | exact Bool.noConfusion h | with_reducible exact h | (have ht : true = true := h; clear ht h) | skip) | ((with_reducible refine SCall.mark ?_); first | refine SCall.data (f1) rfl rfl ?_ | refine SCall.scal (f1) rfl rfl ?_ | refine SCall.data (f2) rfl rfl ?_ | refine SCall.scal (f2) rfl rfl ?_ | refine SCall.data (hw) rfl rfl ?_ | refine SCall.scal (hw) rfl rfl ?_) | ((with_reducible refine PCall.mark ?_); first | refine PCall.mk (f1) rfl rfl ?_ | refine PCall.mk (f2) rfl rfl ?_ | refine PCall.mk (hw) rfl rfl ?_) | ((with_reducible refine GCall.mark ?_); first | refine GCall.data (fun _ => f1) rfl rfl ?_ | refine GCall.scal (fun _ => f1) rfl rfl ?_ | refine GCall.data (fun _ => f2) rfl rfl ?_ | refine GCall.scal (fun _ => f2) rfl rfl ?_ | refine GCall.data (fun _ => hw) rfl rfl ?_ | refine GCall.scal (fun _ => hw) rfl rfl ?_) | ((with_reducible refine MCall.mark ?_); first | refine MCall.data (fun _ => f1) rfl rfl ?_ | refine MCall.plain (PCall.mk (f1) rfl rfl ?_) | refine MCall.data (fun _ => f2) rfl rfl ?_ | refine MCall.plain (PCall.mk (f2) rfl rfl ?_) | refine MCall.data (fun _ => hw) rfl rfl ?_ | refine MCall.plain (PCall.mk (hw) rfl rfl ?_)) | ((with_reducible refine ECall.mark ?_); first | refine ECall.only ?_ (fun h => nomatch h) | refine ECall.only ?_ ?_) | ((with_reducible refine Drawn.mark ?_); first | refine Drawn.quiet (by kernel_rfl) ?_) | refine dcell_ok rfl ?_ | refine AppC.new ?_))
      all_goals try first | ((with_reducible show Option.isSome (slElem _ _) = true); kernel_rfl) | ((with_reducible show slElem _ _ = some _); kernel_rfl) | ((with_reducible refine enters_mark ?_); kernel_rfl) | (with_reducible assumption) | ((with_reducible show List.all _ DV.one = true); rfl) | ((with_reducible show (_ : Nat) = _); rfl) | ((with_reducible show (_ == true) = true); first | (simp; done) | simpa using h) | ((with_reducible show (_ : Nat) ≤ _); exact Nat.le_of_ble_eq_true rfl) | ((with_reducible show (_ : Int) ≤ _); first | omega | decide) | ((with_reducible show (_ : Int) < _); first | omega | decide) | ((with_reducible show (_ : Nat) < _); omega) | ((with_reducible show (_ : Nat) ≤ _); omega)
      all_goals try ((with_reducible show (_ == false) = true); rfl)
      all_goals (conv => whnf)
      all_goals exact Tells.mk (DW.same _ rfl)
  · rw [eq_false_of_ne_true h1] at f1
    refine DFun.data (DFun.body Tryz.func3 rfl (by kernel_rfl) ?_)
    repeat' (first | with_reducible rfl | ((conv => whnf); first | refine And.intro ?_ ?_ | (intro h; first | with_reducible exact tf_no h | with_reducible exact ft_no h | exact Bool.noConfusion h | with_reducible exact h | (have ht : true = true := h; clear ht h) | skip) | ((with_reducible refine SCall.mark ?_); first | refine SCall.data (f1) rfl rfl ?_ | refine SCall.scal (f1) rfl rfl ?_ | refine SCall.data (f2) rfl rfl ?_ | refine SCall.scal (f2) rfl rfl ?_ | refine SCall.data (hw) rfl rfl ?_ | refine SCall.scal (hw) rfl rfl ?_) | ((with_reducible refine PCall.mark ?_); first | refine PCall.mk (f1) rfl rfl ?_ | refine PCall.mk (f2) rfl rfl ?_ | refine PCall.mk (hw) rfl rfl ?_) | ((with_reducible refine GCall.mark ?_); first | refine GCall.data (fun _ => f1) rfl rfl ?_ | refine GCall.scal (fun _ => f1) rfl rfl ?_ | refine GCall.data (fun _ => f2) rfl rfl ?_ | refine GCall.scal (fun _ => f2) rfl rfl ?_ | refine GCall.data (fun _ => hw) rfl rfl ?_ | refine GCall.scal (fun _ => hw) rfl rfl ?_) | ((with_reducible refine MCall.mark ?_); first | refine MCall.data (fun _ => f1) rfl rfl ?_ | refine MCall.plain (PCall.mk (f1) rfl rfl ?_) | refine MCall.data (fun _ => f2) rfl rfl ?_ | refine MCall.plain (PCall.mk (f2) rfl rfl ?_) | refine MCall.data (fun _ => hw) rfl rfl ?_ | refine MCall.plain (PCall.mk (hw) rfl rfl ?_)) | ((with_reducible refine ECall.mark ?_); first | refine ECall.only ?_ (fun h => nomatch h) | refine ECall.only ?_ ?_) | ((with_reducible refine Drawn.mark ?_); first | refine Drawn.quiet (by kernel_rfl) ?_) | refine dcell_ok rfl ?_ | refine AppC.new ?_))
    all_goals try first | ((with_reducible show Option.isSome (slElem _ _) = true); kernel_rfl) | ((with_reducible show slElem _ _ = some _); kernel_rfl) | ((with_reducible refine enters_mark ?_); kernel_rfl) | (with_reducible assumption) | ((with_reducible show List.all _ DV.one = true); rfl) | ((with_reducible show (_ : Nat) = _); rfl) | ((with_reducible show (_ == true) = true); first | (simp; done) | simpa using h) | ((with_reducible show (_ : Nat) ≤ _); exact Nat.le_of_ble_eq_true rfl) | ((with_reducible show (_ : Int) ≤ _); first | omega | decide) | ((with_reducible show (_ : Int) < _); first | omega | decide) | ((with_reducible show (_ : Nat) < _); omega) | ((with_reducible show (_ : Nat) ≤ _); omega)
    all_goals try ((with_reducible show (_ == false) = true); rfl)
    all_goals (conv => whnf)
    all_goals exact Tells.mk (DW.same _ rfl)
end Go.Proofs.YtagfmppjlfhmeaaGreatDoor


