/- The order of cells, as the program has it. -/
import Derived.Test.YtlchjjchgebfiaaGreatDoorPkA
import Derived.Lib.ParseIntBTie
import Derived.WalkKit
import Derived.Deep.LoopGhost
import Derived.Laws.IdiomStrings

namespace Go.Proofs.YtlchjjchgebfiaaGreatDoor
open Go.RowKit Go.Dl
attribute [local irreducible] Tri SCall TSem ECall Drawn DFun QSem PSem PCall GCall MCall Round Weak dloadE OW DWl Tells IntKind.wrap Retold ESem
def numN (s : ByteArray) : Int := match Lib.parseIntB 64 s.data.toList with
  | .ok v => v
  | .range => Lib.intSat 64 s.data.toList
  | _ => 0
def numOk (s : ByteArray) : Bool := match Lib.parseIntB 64 s.data.toList with
  | .ok v => numB v == s
  | _ => false
attribute [local irreducible] numB
set_option maxRecDepth 20000 in
theorem num65_D (s : ByteArray) (hs : s.size ≤ 140737488355328) : DPure Tryz.prog 65 [strV s] (.tup [int1 (numN s), bl (numOk s)]) := by
  have hp := parse95_D s (by omega)
  cases h : Lib.parseIntB 64 s.data.toList with
  | ok v =>
    have hb := Lib.parseIntB_bounds h
    have hf := fmt96_D v (by omega) (by omega)
    have e1 : parseP s = .tup [int1 v, .v .nilIface] := by rw [parseP, h]
    have e2 : numN s = v := by rw [numN, h]
    have e3 : numOk s = (numB v == s) := by rw [numOk, h]
    rw [e1] at hp
    rw [e2, e3]
    refine DFun.data (DFun.body Tryz.func65 rfl (by kernel_rfl) ?_)
    repeat' (first | with_reducible rfl | ((conv => whnf); first | refine And.intro ?_ ?_ | (intro h; first | with_reducible exact tf_no h | with_reducible exact ft_no h | exact Bool.noConfusion h | with_reducible exact h | (have ht : true = true := h; clear ht h) | skip) | ((with_reducible refine SCall.mark ?_); first | refine SCall.data (hp) rfl rfl ?_ | refine SCall.scal (hp) rfl rfl ?_ | refine SCall.data (hf) rfl rfl ?_ | refine SCall.scal (hf) rfl rfl ?_) | ((with_reducible refine PCall.mark ?_); first | refine PCall.mk (hp) rfl rfl ?_ | refine PCall.mk (hf) rfl rfl ?_) | ((with_reducible refine GCall.mark ?_); first | refine GCall.data (fun _ => hp) rfl rfl ?_ | refine GCall.scal (fun _ => hp) rfl rfl ?_ | refine GCall.data (fun _ => hf) rfl rfl ?_ | refine GCall.scal (fun _ => hf) rfl rfl ?_) | ((with_reducible refine MCall.mark ?_); first | refine MCall.data (fun _ => hp) rfl rfl ?_ | refine MCall.plain (PCall.mk (hp) rfl rfl ?_) | refine MCall.data (fun _ => hf) rfl rfl ?_ | refine MCall.plain (PCall.mk (hf) rfl rfl ?_)) | ((with_reducible refine ex_mark ?_); first | refine dq_nilEq Tryz.underlying68 rfl ?_) | ((with_reducible refine ECall.mark ?_); first | refine ECall.only ?_ (fun h => nomatch h) | refine ECall.only ?_ ?_) | ((with_reducible refine Drawn.mark ?_); first | refine Drawn.quiet (by kernel_rfl) ?_) | refine dcell_ok rfl ?_ | refine AppC.new ?_))
    all_goals first | (with_reducible refine enters_mark ?_; kernel_rfl) | (with_reducible refine boolT_mark ?_; kernel_rfl) | rfl | trivial | assumption | exact Nat.le_of_ble_eq_true rfl | (show entersB _ _ = true; kernel_rfl) | exact DW.same _ rfl | exact DW.ref _ _ _ rfl | exact DW.arr _ _ _ rfl | refine DW.int ?_ | refine dvb ?_ | refine dvi ?_ | exact OW.cells rfl rfl (DWl.same rfl) | exact Nat.zero_le _ | omega | skip
    all_goals repeat' (first | refine OW.cells rfl rfl ?_ | exact DW.nilArr _ rfl | refine DWl.cons ?_ ?_ | exact DWl.nil | exact DW.same _ rfl | exact DW.ref _ _ _ rfl | exact DW.arr _ _ _ rfl | exact DW.sub _ _ _ _ rfl | exact DW.mo _ _ rfl | exact DW.nilLst _ | refine DW.aggl ?_ | refine DW.tupl ?_ | refine DW.clol ?_ ?_)
    all_goals try ((conv => whnf); with_reducible first | refine Round.mark ?_ | refine Tells.mark ?_ | refine Retold.mark ?_)
    all_goals try first | (show (_ : Bool) = _; simp_all; done) | (show (_ : Int) < _; simp at *; omega) | (show (_ : Int) ≤ _; simp at *; omega) | (show (_ : Nat) < _; simp at *; omega) | (show (_ : Nat) ≤ _; simp at *; omega)
    conv => whnf
    exact Tells.mk (DW.tupl (DWl.cons (DW.same _ rfl) (DWl.cons (DW.bool rfl) DWl.nil)))
  | range =>
    have e1 : parseP s = .tup [int1 (Lib.intSat 64 s.data.toList), .ifc 176 .dead] := by rw [parseP, h]
    have e2 : numN s = Lib.intSat 64 s.data.toList := by rw [numN, h]
    have e3 : numOk s = false := by rw [numOk, h]
    rw [e1] at hp
    rw [e2, e3]
    refine DFun.data (DFun.body Tryz.func65 rfl (by kernel_rfl) ?_)
    repeat' (first | with_reducible rfl | ((conv => whnf); first | refine And.intro ?_ ?_ | (intro h; first | with_reducible exact tf_no h | with_reducible exact ft_no h | exact Bool.noConfusion h | with_reducible exact h | (have ht : true = true := h; clear ht h) | skip) | ((with_reducible refine SCall.mark ?_); first | refine SCall.data (hp) rfl rfl ?_ | refine SCall.scal (hp) rfl rfl ?_) | ((with_reducible refine PCall.mark ?_); first | refine PCall.mk (hp) rfl rfl ?_ | refine PCall.mkg (r := strV ⟨#[]⟩) (fun hg => absurd hg (by decide)) rfl rfl ?_) | ((with_reducible refine GCall.mark ?_); first | refine GCall.data (fun _ => hp) rfl rfl ?_ | refine GCall.scal (fun _ => hp) rfl rfl ?_ | refine GCall.scal (r := strV ⟨#[]⟩) (fun hg => absurd hg (by decide)) rfl rfl ?_) | ((with_reducible refine MCall.mark ?_); first | refine MCall.data (fun _ => hp) rfl rfl ?_ | refine MCall.plain (PCall.mk (hp) rfl rfl ?_)) | ((with_reducible refine ex_mark ?_); first | refine dq_errEq Tryz.underlying68 rfl ?_) | ((with_reducible refine ECall.mark ?_); first | refine ECall.only ?_ (fun h => nomatch h) | refine ECall.only ?_ ?_) | ((with_reducible refine Drawn.mark ?_); first | refine Drawn.quiet (by kernel_rfl) ?_) | refine dcell_ok rfl ?_ | refine AppC.new ?_))
    all_goals first | (with_reducible refine enters_mark ?_; kernel_rfl) | (with_reducible refine boolT_mark ?_; kernel_rfl) | rfl | trivial | assumption | exact Nat.le_of_ble_eq_true rfl | (show entersB _ _ = true; kernel_rfl) | exact DW.same _ rfl | exact DW.ref _ _ _ rfl | exact DW.arr _ _ _ rfl | refine DW.int ?_ | refine dvb ?_ | refine dvi ?_ | exact OW.cells rfl rfl (DWl.same rfl) | exact Nat.zero_le _ | omega | skip
    all_goals repeat' (first | refine OW.cells rfl rfl ?_ | exact DW.nilArr _ rfl | refine DWl.cons ?_ ?_ | exact DWl.nil | exact DW.same _ rfl | exact DW.ref _ _ _ rfl | exact DW.arr _ _ _ rfl | exact DW.sub _ _ _ _ rfl | exact DW.mo _ _ rfl | exact DW.nilLst _ | refine DW.aggl ?_ | refine DW.tupl ?_ | refine DW.clol ?_ ?_)
    all_goals try ((conv => whnf); with_reducible first | refine Round.mark ?_ | refine Tells.mark ?_ | refine Retold.mark ?_)
    all_goals try first | (show (_ : Bool) = _; simp_all; done) | (show (_ : Int) < _; simp at *; omega) | (show (_ : Int) ≤ _; simp at *; omega) | (show (_ : Nat) < _; simp at *; omega) | (show (_ : Nat) ≤ _; simp at *; omega)
    conv => whnf
    exact Tells.mk (DW.tupl (DWl.cons (DW.same _ rfl) (DWl.cons (DW.bool rfl) DWl.nil)))
  | _ =>
    have e1 : parseP s = .tup [int1 0, .ifc 176 .dead] := by rw [parseP, h]
    have e2 : numN s = 0 := by rw [numN, h]
    have e3 : numOk s = false := by rw [numOk, h]
    rw [e1] at hp
    rw [e2, e3]
    refine DFun.data (DFun.body Tryz.func65 rfl (by kernel_rfl) ?_)
    repeat' (first | with_reducible rfl | ((conv => whnf); first | refine And.intro ?_ ?_ | (intro h; first | with_reducible exact tf_no h | with_reducible exact ft_no h | exact Bool.noConfusion h | with_reducible exact h | (have ht : true = true := h; clear ht h) | skip) | ((with_reducible refine SCall.mark ?_); first | refine SCall.data (hp) rfl rfl ?_ | refine SCall.scal (hp) rfl rfl ?_) | ((with_reducible refine PCall.mark ?_); first | refine PCall.mk (hp) rfl rfl ?_ | refine PCall.mkg (r := strV ⟨#[]⟩) (fun hg => absurd hg (by decide)) rfl rfl ?_) | ((with_reducible refine GCall.mark ?_); first | refine GCall.data (fun _ => hp) rfl rfl ?_ | refine GCall.scal (fun _ => hp) rfl rfl ?_ | refine GCall.scal (r := strV ⟨#[]⟩) (fun hg => absurd hg (by decide)) rfl rfl ?_) | ((with_reducible refine MCall.mark ?_); first | refine MCall.data (fun _ => hp) rfl rfl ?_ | refine MCall.plain (PCall.mk (hp) rfl rfl ?_)) | ((with_reducible refine ex_mark ?_); first | refine dq_errEq Tryz.underlying68 rfl ?_) | ((with_reducible refine ECall.mark ?_); first | refine ECall.only ?_ (fun h => nomatch h) | refine ECall.only ?_ ?_) | ((with_reducible refine Drawn.mark ?_); first | refine Drawn.quiet (by kernel_rfl) ?_) | refine dcell_ok rfl ?_ | refine AppC.new ?_))
    all_goals first | (with_reducible refine enters_mark ?_; kernel_rfl) | (with_reducible refine boolT_mark ?_; kernel_rfl) | rfl | trivial | assumption | exact Nat.le_of_ble_eq_true rfl | (show entersB _ _ = true; kernel_rfl) | exact DW.same _ rfl | exact DW.ref _ _ _ rfl | exact DW.arr _ _ _ rfl | refine DW.int ?_ | refine dvb ?_ | refine dvi ?_ | exact OW.cells rfl rfl (DWl.same rfl) | exact Nat.zero_le _ | omega | skip
    all_goals repeat' (first | refine OW.cells rfl rfl ?_ | exact DW.nilArr _ rfl | refine DWl.cons ?_ ?_ | exact DWl.nil | exact DW.same _ rfl | exact DW.ref _ _ _ rfl | exact DW.arr _ _ _ rfl | exact DW.sub _ _ _ _ rfl | exact DW.mo _ _ rfl | exact DW.nilLst _ | refine DW.aggl ?_ | refine DW.tupl ?_ | refine DW.clol ?_ ?_)
    all_goals try ((conv => whnf); with_reducible first | refine Round.mark ?_ | refine Tells.mark ?_ | refine Retold.mark ?_)
    all_goals try first | (show (_ : Bool) = _; simp_all; done) | (show (_ : Int) < _; simp at *; omega) | (show (_ : Int) ≤ _; simp at *; omega) | (show (_ : Nat) < _; simp at *; omega) | (show (_ : Nat) ≤ _; simp at *; omega)
    conv => whnf
    exact Tells.mk (DW.tupl (DWl.cons (DW.same _ rfl) (DWl.cons (DW.bool rfl) DWl.nil)))
end Go.Proofs.YtlchjjchgebfiaaGreatDoor

namespace Go.Proofs.YtlchjjchgebfiaaGreatDoor
open Go.RowKit Go.Dl
attribute [local irreducible] Tri SCall TSem ECall Drawn DFun QSem PSem PCall GCall MCall Round Weak dloadE OW DWl Tells IntKind.wrap Retold ESem
def cmpI (x y : Int) : Int := if x < y then -1 else if y < x then 1 else 0
theorem nan119_D (x : Int) : DPure Tryz.prog 119 [int1 x] (bl false) := by
  refine DFun.body Tryz.func119 rfl (by kernel_rfl) ?_
  repeat' (first | with_reducible rfl | ((conv => whnf); first | refine And.intro ?_ ?_ | (intro h; first | with_reducible exact tf_no h | with_reducible exact ft_no h | exact Bool.noConfusion h | with_reducible exact h | (have ht : true = true := h; clear ht h) | skip) | ((with_reducible refine ECall.mark ?_); first | refine ECall.only ?_ (fun h => nomatch h) | refine ECall.only ?_ ?_) | ((with_reducible refine Drawn.mark ?_); first | refine Drawn.quiet (by kernel_rfl) ?_) | refine dcell_ok rfl ?_ | refine AppC.new ?_))
  all_goals first | (with_reducible refine enters_mark ?_; kernel_rfl) | (with_reducible refine boolT_mark ?_; kernel_rfl) | rfl | trivial | assumption | exact Nat.le_of_ble_eq_true rfl | (show entersB _ _ = true; kernel_rfl) | exact DW.same _ rfl | exact DW.ref _ _ _ rfl | exact DW.arr _ _ _ rfl | refine DW.int ?_ | refine dvb ?_ | refine dvi ?_ | exact OW.cells rfl rfl (DWl.same rfl) | skip
  all_goals repeat' (first | exact OW.cells rfl rfl (DWl.same rfl) | refine OW.cells rfl rfl ?_ | exact DW.nilArr _ rfl | refine DW.clol ?_ ?_ | refine DWl.cons ?_ ?_ | exact DWl.nil | exact DW.same _ rfl | exact DW.ref _ _ _ rfl | exact DW.arr _ _ _ rfl | refine DW.int ?_)
  all_goals try (simp_all; done)
  all_goals try (simp at *; omega)
  all_goals (conv => whnf)
  all_goals simp
theorem ba_self (x : ByteArray) : (x == x) = true := ba_eq.2 rfl
theorem nan120_D (x : ByteArray) : DPure Tryz.prog 120 [strV x] (bl false) := by
  refine DFun.body Tryz.func120 rfl (by kernel_rfl) ?_
  repeat' (first | with_reducible rfl | ((conv => whnf); first | refine And.intro ?_ ?_ | (intro h; first | with_reducible exact tf_no h | with_reducible exact ft_no h | exact Bool.noConfusion h | with_reducible exact h | (have ht : true = true := h; clear ht h) | skip) | ((with_reducible refine ECall.mark ?_); first | refine ECall.only ?_ (fun h => nomatch h) | refine ECall.only ?_ ?_) | ((with_reducible refine Drawn.mark ?_); first | refine Drawn.quiet (by kernel_rfl) ?_) | refine dcell_ok rfl ?_ | refine AppC.new ?_))
  all_goals first | (with_reducible refine enters_mark ?_; kernel_rfl) | (with_reducible refine boolT_mark ?_; kernel_rfl) | rfl | trivial | assumption | exact Nat.le_of_ble_eq_true rfl | (show entersB _ _ = true; kernel_rfl) | exact DW.same _ rfl | exact DW.ref _ _ _ rfl | exact DW.arr _ _ _ rfl | refine DW.int ?_ | refine dvb ?_ | refine dvi ?_ | exact OW.cells rfl rfl (DWl.same rfl) | skip
  all_goals repeat' (first | exact OW.cells rfl rfl (DWl.same rfl) | refine OW.cells rfl rfl ?_ | exact DW.nilArr _ rfl | refine DW.clol ?_ ?_ | refine DWl.cons ?_ ?_ | exact DWl.nil | exact DW.same _ rfl | exact DW.ref _ _ _ rfl | exact DW.arr _ _ _ rfl | refine DW.int ?_)
  all_goals try (simp_all; done)
  all_goals try (simp at *; omega)
  show (!(x == x)) = false
  rw [ba_self]; rfl
theorem cmp91_D (x y : Int) : DPure Tryz.prog 91 [int1 x, int1 y] (int1 (cmpI x y)) := by
  refine DFun.body Tryz.func91 rfl (by kernel_rfl) ?_
  repeat' (first | with_reducible rfl | ((conv => whnf); first | refine And.intro ?_ ?_ | (intro h; first | with_reducible exact tf_no h | with_reducible exact ft_no h | exact Bool.noConfusion h | with_reducible exact h | (have ht : true = true := h; clear ht h) | skip) | ((with_reducible refine SCall.mark ?_); first | refine SCall.data (nan119_D x) rfl rfl ?_ | refine SCall.scal (nan119_D x) rfl rfl ?_ | refine SCall.data (nan119_D y) rfl rfl ?_ | refine SCall.scal (nan119_D y) rfl rfl ?_) | ((with_reducible refine PCall.mark ?_); first | refine PCall.mk (nan119_D x) rfl rfl ?_ | refine PCall.mk (nan119_D y) rfl rfl ?_) | ((with_reducible refine GCall.mark ?_); first | refine GCall.data (fun _ => nan119_D x) rfl rfl ?_ | refine GCall.scal (fun _ => nan119_D x) rfl rfl ?_ | refine GCall.data (fun _ => nan119_D y) rfl rfl ?_ | refine GCall.scal (fun _ => nan119_D y) rfl rfl ?_) | ((with_reducible refine MCall.mark ?_); first | refine MCall.data (fun _ => nan119_D x) rfl rfl ?_ | refine MCall.plain (PCall.mk (nan119_D x) rfl rfl ?_) | refine MCall.data (fun _ => nan119_D y) rfl rfl ?_ | refine MCall.plain (PCall.mk (nan119_D y) rfl rfl ?_)) | ((with_reducible refine ECall.mark ?_); first | refine ECall.only ?_ (fun h => nomatch h) | refine ECall.only ?_ ?_) | ((with_reducible refine Drawn.mark ?_); first | refine Drawn.quiet (by kernel_rfl) ?_) | refine dcell_ok rfl ?_ | refine AppC.new ?_))
  all_goals first | (with_reducible refine enters_mark ?_; kernel_rfl) | (with_reducible refine boolT_mark ?_; kernel_rfl) | rfl | trivial | assumption | exact Nat.le_of_ble_eq_true rfl | (show entersB _ _ = true; kernel_rfl) | exact DW.same _ rfl | exact DW.ref _ _ _ rfl | exact DW.arr _ _ _ rfl | refine DW.int ?_ | refine dvb ?_ | refine dvi ?_ | exact OW.cells rfl rfl (DWl.same rfl) | skip
  all_goals repeat' (first | exact OW.cells rfl rfl (DWl.same rfl) | refine OW.cells rfl rfl ?_ | exact DW.nilArr _ rfl | refine DW.clol ?_ ?_ | refine DWl.cons ?_ ?_ | exact DWl.nil | exact DW.same _ rfl | exact DW.ref _ _ _ rfl | exact DW.arr _ _ _ rfl | refine DW.int ?_)
  all_goals try (simp_all; done)
  all_goals try (simp at *; omega)
  · rw [cmpI, if_pos (of_decide_eq_true h)]
  · rename_i h1
    rw [cmpI, if_neg (of_decide_eq_false h1), if_pos (of_decide_eq_true h)]
  · rename_i h1
    rw [cmpI, if_neg (of_decide_eq_false h1), if_neg (of_decide_eq_false h)]
def cmpS (x y : ByteArray) : Int := if Op.bytesLess x.toList y.toList = true then -1 else if (!(Op.bytesLess x.toList y.toList || x == y)) = true then 1 else 0
theorem cmp92_D (x y : ByteArray) : DPure Tryz.prog 92 [strV x, strV y] (int1 (cmpS x y)) := by
  refine DFun.body Tryz.func92 rfl (by kernel_rfl) ?_
  repeat' (first | with_reducible rfl | ((conv => whnf); first | refine And.intro ?_ ?_ | (intro h; first | with_reducible exact tf_no h | with_reducible exact ft_no h | exact Bool.noConfusion h | with_reducible exact h | (have ht : true = true := h; clear ht h) | skip) | ((with_reducible refine SCall.mark ?_); first | refine SCall.data (nan120_D x) rfl rfl ?_ | refine SCall.scal (nan120_D x) rfl rfl ?_ | refine SCall.data (nan120_D y) rfl rfl ?_ | refine SCall.scal (nan120_D y) rfl rfl ?_) | ((with_reducible refine PCall.mark ?_); first | refine PCall.mk (nan120_D x) rfl rfl ?_ | refine PCall.mk (nan120_D y) rfl rfl ?_) | ((with_reducible refine GCall.mark ?_); first | refine GCall.data (fun _ => nan120_D x) rfl rfl ?_ | refine GCall.scal (fun _ => nan120_D x) rfl rfl ?_ | refine GCall.data (fun _ => nan120_D y) rfl rfl ?_ | refine GCall.scal (fun _ => nan120_D y) rfl rfl ?_) | ((with_reducible refine MCall.mark ?_); first | refine MCall.data (fun _ => nan120_D x) rfl rfl ?_ | refine MCall.plain (PCall.mk (nan120_D x) rfl rfl ?_) | refine MCall.data (fun _ => nan120_D y) rfl rfl ?_ | refine MCall.plain (PCall.mk (nan120_D y) rfl rfl ?_)) | ((with_reducible refine ECall.mark ?_); first | refine ECall.only ?_ (fun h => nomatch h) | refine ECall.only ?_ ?_) | ((with_reducible refine Drawn.mark ?_); first | refine Drawn.quiet (by kernel_rfl) ?_) | refine dcell_ok rfl ?_ | refine AppC.new ?_))
  all_goals first | (with_reducible refine enters_mark ?_; kernel_rfl) | (with_reducible refine boolT_mark ?_; kernel_rfl) | rfl | trivial | assumption | exact Nat.le_of_ble_eq_true rfl | (show entersB _ _ = true; kernel_rfl) | exact DW.same _ rfl | exact DW.ref _ _ _ rfl | exact DW.arr _ _ _ rfl | refine DW.int ?_ | refine dvb ?_ | refine dvi ?_ | exact OW.cells rfl rfl (DWl.same rfl) | skip
  all_goals repeat' (first | exact OW.cells rfl rfl (DWl.same rfl) | refine OW.cells rfl rfl ?_ | exact DW.nilArr _ rfl | refine DW.clol ?_ ?_ | refine DWl.cons ?_ ?_ | exact DWl.nil | exact DW.same _ rfl | exact DW.ref _ _ _ rfl | exact DW.arr _ _ _ rfl | refine DW.int ?_)
  all_goals try (simp_all; done)
  all_goals try (simp at *; omega)
  · rw [cmpS, if_pos h]
  · rename_i h1
    rw [cmpS, if_neg (by rw [h1]; decide), if_pos h]
  · rename_i h1
    rw [cmpS, if_neg (by rw [h1]; decide), if_neg (by rw [h]; decide)]
def cmpT (a b : ByteArray) : Int := bif bif numOk a then numOk b else false then cmpI (numN a) (numN b) else bif numOk a then -1 else bif numOk b then 1 else cmpS a b
theorem cmpT_1 {a b : ByteArray} (h : (bif numOk a then numOk b else false) = true) : cmpI (numN a) (numN b) = cmpT a b := by rw [cmpT, h]; rfl
theorem cmpT_2 {a b : ByteArray} (h : (bif numOk a then numOk b else false) = false) (h1 : numOk a = true) : -1 = cmpT a b := by rw [cmpT, h, h1]; rfl
theorem cmpT_3 {a b : ByteArray} (h1 : numOk a = false) (h2 : numOk b = true) : 1 = cmpT a b := by rw [cmpT, h1, h2]; rfl
theorem cmpT_4 {a b : ByteArray} (h1 : numOk a = false) (h2 : numOk b = false) : cmpS a b = cmpT a b := by rw [cmpT, h1, h2]; rfl
attribute [local irreducible] numOk numN cmpI cmpS
theorem cmp59_D (a b : ByteArray) (ha : a.size ≤ 140737488355328) (hb : b.size ≤ 140737488355328) : DPure Tryz.prog 59 [strV a, strV b] (int1 (cmpT a b)) := by
  have h1 := num65_D a ha
  have h2 := num65_D b hb
  refine DFun.body Tryz.func59 rfl (by kernel_rfl) ?_
  repeat' (first | with_reducible rfl | ((conv => whnf); first | refine And.intro ?_ ?_ | (intro h; first | with_reducible exact tf_no h | with_reducible exact ft_no h | exact Bool.noConfusion h | with_reducible exact h | (have ht : true = true := h; clear ht h) | skip) | ((with_reducible refine SCall.mark ?_); first | refine SCall.data (h1) rfl rfl ?_ | refine SCall.scal (h1) rfl rfl ?_ | refine SCall.data (h2) rfl rfl ?_ | refine SCall.scal (h2) rfl rfl ?_ | refine SCall.data (cmp91_D _ _) rfl rfl ?_ | refine SCall.scal (cmp91_D _ _) rfl rfl ?_ | refine SCall.data (cmp92_D _ _) rfl rfl ?_ | refine SCall.scal (cmp92_D _ _) rfl rfl ?_) | ((with_reducible refine PCall.mark ?_); first | refine PCall.mk (h1) rfl rfl ?_ | refine PCall.mk (h2) rfl rfl ?_ | refine PCall.mk (cmp91_D _ _) rfl rfl ?_ | refine PCall.mk (cmp92_D _ _) rfl rfl ?_) | ((with_reducible refine GCall.mark ?_); first | refine GCall.data (fun _ => h1) rfl rfl ?_ | refine GCall.scal (fun _ => h1) rfl rfl ?_ | refine GCall.data (fun _ => h2) rfl rfl ?_ | refine GCall.scal (fun _ => h2) rfl rfl ?_ | refine GCall.data (fun _ => cmp91_D _ _) rfl rfl ?_ | refine GCall.scal (fun _ => cmp91_D _ _) rfl rfl ?_ | refine GCall.data (fun _ => cmp92_D _ _) rfl rfl ?_ | refine GCall.scal (fun _ => cmp92_D _ _) rfl rfl ?_) | ((with_reducible refine MCall.mark ?_); first | refine MCall.data (fun _ => h1) rfl rfl ?_ | refine MCall.plain (PCall.mk (h1) rfl rfl ?_) | refine MCall.data (fun _ => h2) rfl rfl ?_ | refine MCall.plain (PCall.mk (h2) rfl rfl ?_) | refine MCall.data (fun _ => cmp91_D _ _) rfl rfl ?_ | refine MCall.plain (PCall.mk (cmp91_D _ _) rfl rfl ?_) | refine MCall.data (fun _ => cmp92_D _ _) rfl rfl ?_ | refine MCall.plain (PCall.mk (cmp92_D _ _) rfl rfl ?_)) | ((with_reducible refine ECall.mark ?_); first | refine ECall.only ?_ (fun h => nomatch h) | refine ECall.only ?_ ?_) | ((with_reducible refine Drawn.mark ?_); first | refine Drawn.quiet (by kernel_rfl) ?_) | refine dcell_ok rfl ?_ | refine AppC.new ?_))
  all_goals first | (with_reducible refine enters_mark ?_; kernel_rfl) | (with_reducible refine boolT_mark ?_; kernel_rfl) | rfl | trivial | assumption | exact Nat.le_of_ble_eq_true rfl | (show entersB _ _ = true; kernel_rfl) | exact DW.same _ rfl | exact DW.ref _ _ _ rfl | exact DW.arr _ _ _ rfl | refine DW.int ?_ | refine dvb ?_ | refine dvi ?_ | exact OW.cells rfl rfl (DWl.same rfl) | skip
  all_goals repeat' (first | exact OW.cells rfl rfl (DWl.same rfl) | refine OW.cells rfl rfl ?_ | exact DW.nilArr _ rfl | refine DW.clol ?_ ?_ | refine DWl.cons ?_ ?_ | exact DWl.nil | exact DW.same _ rfl | exact DW.ref _ _ _ rfl | exact DW.arr _ _ _ rfl | refine DW.int ?_)
  all_goals try (simp_all; done)
  all_goals try (simp at *; omega)
  · exact cmpT_1 h
  · rename_i h3
    exact cmpT_2 h3 h
  · rename_i h3
    exact cmpT_3 h3 h
  · rename_i h3
    exact cmpT_4 h3 h
end Go.Proofs.YtlchjjchgebfiaaGreatDoor
namespace Go.Proofs.YtlchjjchgebfiaaGreatDoor
open Go Go.RowKit Go.Dl
def drB (b : UInt8) : UInt8 := if b.toNat < 32 ∨ b.toNat = 127 then 63 else b
def bAt (s : ByteArray) (j : Nat) : UInt8 := s.data.toList.getD j 0
def celJ (s : ByteArray) (k j : Nat) : Int := if j < k then ((drB (bAt s j)).toNat : Int) else ((bAt s j).toNat : Int)
def drawnB (s : ByteArray) : ByteArray := bs (s.data.toList.map drB)
structure Row0 (s : ByteArray) (g k : Nat) (w wr : World) : Prop where
  below : Below g w wr
  cell : ∀ j, j < s.size → wr.cell? ⟨g, j, none⟩ = some (.int .u8 (celJ s k j))
  frz : ∀ j, j < s.size → wr.frozen? ⟨g, j, none⟩ = false
theorem row0_start (s : ByteArray) (w : World) (c : Nat) (_hc : s.size ≤ c) : Row0 s w.heap.size 0 w (w.drew.alloc (.cells (bytesRow s c) 5 ((bytesRow s c).size, (bytesRow s c).size + 1))) := by
  have hsz : (bytesRow s c).size = s.size + (c - s.size) := by simp [bytesRow]
  have hg := heap_alloc_new w.drew (.cells (bytesRow s c) 5 ((bytesRow s c).size, (bytesRow s c).size + 1))
  have hg' : (w.drew.alloc (.cells (bytesRow s c) 5 ((bytesRow s c).size, (bytesRow s c).size + 1))).heap[w.heap.size]? = some (.cells (bytesRow s c) 5 ((bytesRow s c).size, (bytesRow s c).size + 1)) := hg
  refine ⟨(Below.drew (Below.refl _ w)).alloc (Nat.le_refl _) _, fun j hj => ?_, fun j hj => ?_⟩
  · rw [Lib.cell_of_heap hg']
    have hj' : j < s.data.size := hj
    unfold bytesRow celJ bAt
    rw [Array.getElem?_append_left (by simpa using hj'), Array.getElem?_map, if_neg (Nat.not_lt_zero _), List.getD_eq_getElem?_getD, Array.getElem?_toList, Array.getElem?_eq_getElem hj']
    rfl
  · simp only [World.frozen?, hg']
    simp
    omega
theorem row0_step {s : ByteArray} {g k : Nat} {w wr : World} (h : Row0 s g k w wr) (hk : k < s.size) (hd : drB (bAt s k) = 63) : Row0 s g (k + 1) w (wr.setCell ⟨g, k, none⟩ (.int .u8 63)) := by
  refine ⟨h.below.setCell (p := ⟨g, k, none⟩) (Nat.le_refl _) _, fun j hj => ?_, fun j hj => by rw [World.frozen?_setCell]; exact h.frz j hj⟩
  by_cases e : j = k
  · subst e
    rw [World.cell?_setCell_same _ _ _ (h.cell j hj), celJ, if_pos (Nat.lt_succ_self _), hd]; rfl
  · rw [World.cell?_setCell_other _ _ _ _ (fun e2 => e (by cases e2; rfl)), h.cell j hj, celJ, celJ]
    by_cases h1 : j < k
    · rw [if_pos h1, if_pos (by omega)]
    · rw [if_neg h1, if_neg (by omega)]
theorem row0_stay {s : ByteArray} {g k : Nat} {w wr : World} (h : Row0 s g k w wr) (hd : drB (bAt s k) = bAt s k) : Row0 s g (k + 1) w wr := by
  refine ⟨h.below, fun j hj => ?_, h.frz⟩
  rw [h.cell j hj, celJ, celJ]
  by_cases e : j = k
  · subst e
    rw [if_neg (Nat.lt_irrefl _), if_pos (Nat.lt_succ_self _), hd]
  · by_cases h1 : j < k
    · rw [if_pos h1, if_pos (by omega)]
    · rw [if_neg h1, if_neg (by omega)]
theorem row0_back {s : ByteArray} {g : Nat} {w wr : World} (h : Row0 s g s.size w wr) (cap : Nat) : (convert 63 9 (.slice (some ⟨g, 0, none⟩) s.size cap)).run Tryz.prog wr = .ok (.string (drawnB s)) wr := by
  have hl : (s.data.toList.map drB).length = s.size := by rw [List.length_map]; exact sz_len s
  have := run_convert_bytes_back (P := Tryz.prog) wr 63 9 5 ⟨g, 0, none⟩ cap (s.data.toList.map drB) Tryz.underlying63 Tryz.underlying5 Tryz.underlying9 (fun j hj => by
    have hj2 : j < s.size := by omega
    rw [Addr.add_lit, Nat.zero_add, h.cell j hj2, celJ, if_pos hj2, List.getElem_map, bAt, List.getD_eq_getElem?_getD, List.getElem?_eq_getElem (by rw [sz_len]; exact hj2)]
    rfl)
  rw [hl] at this
  exact this
set_option maxHeartbeats 4000000 in
set_option maxRecDepth 100000 in
theorem drawn_kit (s : ByteArray) (hs : s.size ≤ 1024) (w : World) : Calls Tryz.prog 35 #[.string s] w fun e w' => e = .returned (.string (drawnB s)) ∧ Below w.heap.size w w' := by
  have hge := grownCap_ge w s.size 0 5
  have h0 := row0_start s w _ hge
  go_enter Tryz.func35, Tryz.ntmps35
  go_wp2
  rw [run_bytes_of_string w 9 63 5 s Tryz.underlying9 Tryz.underlying63 Tryz.underlying5]
  simp only [Result.andThen]
  rw [Oper.upon_value]
  generalize hW : World.alloc _ _ = W0 at h0 ⊢
  generalize hcap : grownCap w s.size 0 5 = cap at hge ⊢
  clear hW hcap
  go_wp2
  go_loopg [4, 5, 10] s.size (fun gg _ _ s10 wr => ∃ k : Nat, k ≤ s.size ∧ s.size - k ≤ gg ∧ s10 = .int .i64 k ∧ Aside (Row0 s w.heap.size k w wr))
  case atStart => exact ⟨0, Nat.zero_le _, by omega, rfl, h0⟩
  case round =>
    obtain ⟨k, hk, hg, rfl, hA⟩ := hrel
    by_cases hlt : k < s.size
    · have hlti : (k : Int) < (s.size : Int) := by omega
      have hcell := hA.out.cell k hlt
      rw [celJ, if_neg (Nat.lt_irrefl _)] at hcell
      have hfz := hA.out.frz k hlt
      clear h0
      go_wp2
      all_goals rename_i h1
      all_goals first
        | (have hd : drB (bAt s k) = 63 := by (first | (rw [drB, if_pos (Or.inl (by omega))]; done) | (simp only [beq_iff_eq] at h1; rw [drB, if_pos (by omega)]; done))
           go_roundg (s.size - (k + 1))
           case measure => omega
           case rel => exact ⟨k + 1, by omega, by omega, rfl, row0_step hA.out hlt hd⟩)
        | (have hd : drB (bAt s k) = bAt s k := by
             have h2 : (((bAt s k).toNat : Int) == 127) = false := h1.2
             have h3 : ((bAt s k).toNat : Int) ≠ 127 := fun e => by rw [e] at h2; cases h2
             have h4 := h1.1
             rw [drB, if_neg (by omega)]
           go_roundg (s.size - (k + 1))
           case measure => omega
           case rel => exact ⟨k + 1, by omega, by omega, rfl, row0_stay hA.out hd⟩)
    · have hlti : ¬ (k : Int) < (s.size : Int) := by omega
      have hkn : k = s.size := by omega
      subst hkn
      have hb := hA.out.below
      have hback := row0_back hA.out cap
      clear h0
      go_wp2
      go_ret
      exact ⟨rfl, hb⟩
theorem drawn35_D (s : ByteArray) (hs : s.size ≤ 1024) : DPure Tryz.prog 35 [strV s] (strV (drawnB s)) :=
  DPure.kit (args := [.string s]) fun w _ => (drawn_kit s hs w).mono fun e w' ⟨he, hb⟩ => ⟨_, he, hb, fun F hF => .data (.v _ rfl)⟩
end Go.Proofs.YtlchjjchgebfiaaGreatDoor
namespace Go.Proofs.YtlchjjchgebfiaaGreatDoor
open Go.RowKit Go.Dl
attribute [local irreducible] Tri SCall TSem ECall Drawn DFun QSem PSem PCall GCall MCall Round Weak dloadE OW DWl Tells IntKind.wrap Retold ESem
def celA (t : Tb) (k i : Nat) : ByteArray := (t.rows.getD i []).getD k emB
def wI (t : Tb) (k : Nat) : Nat → Int
  | 0 => ((t.head.getD k emB).size : Nat)
  | i + 1 => if wI t k i < ((celA t k i).size : Nat) then ((celA t k i).size : Nat) else wI t k i
def rI (t : Tb) (k : Nat) : Nat → Bool
  | 0 => decide (0 < ((t.rows.map rowD).length : Int))
  | i + 1 => bif numOk (celA t k i) then rI t k i else false
def colD (t : Tb) (k : Nat) : List DV := [int1 (wI t k t.rows.length), bl (rI t k t.rows.length)]
def lkSt (t : Tb) (k lb i : Nat) : St := ⟨⟨5, [.normal]⟩, tmOf [(0, .clo (.yield lb) [] []), (1, .ref 3 0), (2, .ref 4 0), (7, rowsD t.rows), (8, int1 (t.rows.map rowD).length), (9, int1 i)], .of [(0, ⟨25, 2, tbD t⟩), (1, ⟨59, 2, [int1 0, bl false]⟩), (2, ⟨59, 2, [int1 (wI t k i), bl (rI t k i)]⟩), (3, ⟨25, 2, tbD t⟩), (4, ⟨3, 1, [int1 k]⟩)] 5⟩
structure Tbl (t : Tb) : Prop where
  rows : t.rows.length ≤ 4096
  head : 1 ≤ t.head.length ∧ t.head.length ≤ 64
  even : ∀ r ∈ t.rows, r.length = t.head.length
  small : ∀ l, l = t.head ∨ l ∈ t.rows → ∀ s ∈ l, s.size ≤ 1024
theorem row_mem {t : Tb} {i : Nat} (hi : i < t.rows.length) : t.rows.getD i [] ∈ t.rows := by rw [List.getD_eq_getElem?_getD, List.getElem?_eq_getElem hi]; exact List.getElem_mem hi
theorem col_at {t : Tb} (ht : Tbl t) {k i : Nat} (hk : k < t.head.length) (hi : i < t.rows.length) : k < (t.rows.getD (i : Int).toNat []).length := by
  rw [Int.toNat_natCast, ht.even _ (row_mem hi)]; exact hk
theorem col_in {t : Tb} (ht : Tbl t) {k i : Nat} (hk : k < t.head.length) (hi : i < t.rows.length) : (k : Int) < (((t.rows.getD (i : Int).toNat []).map strD).length : Nat) := by
  rw [List.length_map]; have := col_at ht hk hi; omega
theorem cel_size {t : Tb} (ht : Tbl t) {k i : Nat} (hk : k < t.head.length) (hi : i < t.rows.length) : (celA t k i).size ≤ 1024 := by
  have h1 := row_mem hi
  have h2 : k < (t.rows.getD i []).length := by rw [ht.even _ h1]; exact hk
  refine ht.small _ (.inr h1) _ ?_
  unfold celA
  generalize t.rows.getD i [] = l at h2 ⊢
  rw [List.getD_eq_getElem?_getD, List.getElem?_eq_getElem h2]; exact List.getElem_mem h2
theorem look_no {t : Tb} {k i : Nat} (h : (!numOk (celA t k i)) = true) : false = rI t k (i + 1) := by
  rw [rI, show numOk (celA t k i) = false by simpa using h]; rfl
theorem look_yes {t : Tb} {k i : Nat} (h : (!numOk (celA t k i)) = false) : rI t k i = rI t k (i + 1) := by
  rw [rI, show numOk (celA t k i) = true by simpa using h]; rfl
attribute [local irreducible] numOk numN
set_option maxRecDepth 100000 in
set_option maxHeartbeats 1000000 in
theorem look32_D (t : Tb) (ht : Tbl t) (k : Nat) (hk : k < t.head.length) : DPure Tryz.prog 32 [tab t, int1 k] (.agg (colD t k)) := by
  have hn := fun i (_ : i < t.rows.length) => num65_D (celA t k i) (by have := cel_size ht hk ‹i < t.rows.length›; omega)
  refine DFun.data (DFun.body Tryz.func32 rfl (by kernel_rfl) ?_)
  repeat' (first | with_reducible rfl | ((conv => whnf); first | refine And.intro ?_ ?_ | (intro h; first | with_reducible exact tf_no h | with_reducible exact ft_no h | exact Bool.noConfusion h | with_reducible exact h | (have ht : true = true := h; clear ht h) | skip) | ((with_reducible refine SCall.mark ?_); first | refine SCall.run Tryz.func55 rfl (Nat.le_of_ble_eq_true rfl) (by kernel_rfl) ?_) | ((with_reducible refine Tri.mark ?_); first | (refine Tri.treeX [2] (MX.mv 0 0 (MX.mv 0 1 (MX.mv 0 2 (MX.mv 0 3 (MX.mv 0 4 (MX.mv 0 5 (MX.mv 0 6 (MX.mv 0 7 (MX.mv 0 8 (MX.mv 0 9 (MX.mv 0 10 (MX.mv 1 11 (MX.mv 1 12 MX.done))))))))))))) ?_ (by kernel_rfl) ?_; rfl)) | ((with_reducible refine ECall.mark ?_); first | refine ECall.only ?_ (fun h => nomatch h) | refine ECall.only ?_ ?_) | ((with_reducible refine Drawn.mark ?_); first | (refine Drawn.tree ?_; refine Tri.treeX [2] (MX.mv 0 0 (MX.mv 0 1 (MX.mv 0 2 (MX.mv 0 3 (MX.mv 0 4 (MX.mv 0 5 (MX.mv 0 6 (MX.mv 0 7 (MX.mv 0 8 (MX.mv 0 9 (MX.mv 0 10 (MX.mv 1 11 (MX.mv 1 12 MX.done))))))))))))) ?_ (by kernel_rfl) ?_; rfl) | refine Drawn.quiet (by kernel_rfl) ?_) | refine dloadE_map (emB) ?_ ?_ | refine dcell_ok rfl ?_ | refine AppC.new ?_))
  all_goals first | (with_reducible refine enters_mark ?_; kernel_rfl) | (with_reducible refine boolT_mark ?_; kernel_rfl) | rfl | trivial | assumption | exact Nat.le_of_ble_eq_true rfl | (show entersB _ _ = true; kernel_rfl) | exact DW.same _ rfl | exact DW.ref _ _ _ rfl | exact DW.arr _ _ _ rfl | refine DW.int ?_ | refine dvb ?_ | refine dvi ?_ | exact OW.cells rfl rfl (DWl.same rfl) | exact Nat.zero_le _ | omega | skip
  all_goals repeat' (first | refine OW.cells rfl rfl ?_ | exact DW.nilArr _ rfl | refine DWl.cons ?_ ?_ | exact DWl.nil | exact DW.same _ rfl | exact DW.ref _ _ _ rfl | exact DW.arr _ _ _ rfl | exact DW.sub _ _ _ _ rfl | exact DW.mo _ _ rfl | exact DW.nilLst _ | refine DW.aggl ?_ | refine DW.tupl ?_ | refine DW.clol ?_ ?_)
  all_goals try ((conv => whnf); with_reducible first | refine Round.mark ?_ | refine Tells.mark ?_ | refine Retold.mark ?_)
  all_goals try first | (show (_ : Bool) = _; simp_all; done) | (show (_ : Int) < _; simp at *; omega) | (show (_ : Int) ≤ _; simp at *; omega) | (show (_ : Nat) < _; simp at *; omega) | (show (_ : Nat) ≤ _; simp at *; omega)
  conv => whnf
  refine Tri.range rfl (by kernel_rfl) rfl rfl (by rfl) (by kernel_rfl) fun lb => ?_
  repeat' (first | with_reducible rfl | ((conv => whnf); first | refine And.intro ?_ ?_ | (intro h; first | with_reducible exact tf_no h | with_reducible exact ft_no h | exact Bool.noConfusion h | with_reducible exact h | (have ht : true = true := h; clear ht h) | skip) | ((with_reducible refine ECall.mark ?_); first | refine ECall.only ?_ (fun h => nomatch h) | refine ECall.only ?_ ?_) | ((with_reducible refine Drawn.mark ?_); first | refine Drawn.quiet (by kernel_rfl) ?_) | refine dloadE_map (emB) ?_ ?_ | refine dcell_ok rfl ?_ | refine AppC.new ?_))
  all_goals first | (with_reducible refine enters_mark ?_; kernel_rfl) | (with_reducible refine boolT_mark ?_; kernel_rfl) | rfl | trivial | assumption | exact Nat.le_of_ble_eq_true rfl | (show entersB _ _ = true; kernel_rfl) | exact DW.same _ rfl | exact DW.ref _ _ _ rfl | exact DW.arr _ _ _ rfl | refine DW.int ?_ | refine dvb ?_ | refine dvi ?_ | exact OW.cells rfl rfl (DWl.same rfl) | exact Nat.zero_le _ | omega | skip
  all_goals repeat' (first | refine OW.cells rfl rfl ?_ | exact DW.nilArr _ rfl | refine DWl.cons ?_ ?_ | exact DWl.nil | exact DW.same _ rfl | exact DW.ref _ _ _ rfl | exact DW.arr _ _ _ rfl | exact DW.sub _ _ _ _ rfl | exact DW.mo _ _ rfl | exact DW.nilLst _ | refine DW.aggl ?_ | refine DW.tupl ?_ | refine DW.clol ?_ ?_)
  all_goals try ((conv => whnf); with_reducible first | refine Round.mark ?_ | refine Tells.mark ?_ | refine Retold.mark ?_)
  all_goals try first | (show (_ : Bool) = _; simp_all; done) | (show (_ : Int) < _; simp at *; omega) | (show (_ : Int) ≤ _; simp at *; omega) | (show (_ : Nat) < _; simp at *; omega) | (show (_ : Nat) ≤ _; simp at *; omega)
  conv => whnf
  refine Tri.loop (lkSt t k lb) (· ≤ t.rows.length) (fun i => t.rows.length - i) 0 (by kernel_rfl) (Weak.list [] [] (by kernel_rfl) ?_ ?_) (Nat.zero_le _) ?_
  iterate 2 · repeat' (first | exact DWl.same rfl | exact DW.same _ rfl | exact DW.ref _ _ _ rfl | exact DW.arr _ _ _ rfl | exact OW.cells rfl rfl (DWl.same rfl) | refine OW.cells rfl rfl ?_ | refine DWl.cons ?_ ?_ | exact DWl.nil | exact DW.nilArr _ rfl | exact DW.nilLst _ | refine DW.clol ?_ ?_ | refine DW.aggl ?_ | refine DW.tupl ?_ | refine DW.int ?_ | refine DW.bool ?_ | refine DW.str ?_ | refine DW.arrE rfl ?_ | ((conv => whnf); first | refine And.intro ?_ ?_ | trivial))
  intro i hi
  have hi : i ≤ t.rows.length := hi
  show dcode _ _ _ _ (lkSt t k lb i) _
  repeat' (first | with_reducible rfl | ((conv => whnf); first | refine And.intro ?_ ?_ | (intro h; first | with_reducible exact tf_no h | with_reducible exact ft_no h | exact Bool.noConfusion h | with_reducible exact h | (have ht : true = true := h; clear ht h) | skip) | ((with_reducible refine SCall.mark ?_); first | refine SCall.data (hn i ?_) rfl rfl ?_ | refine SCall.scal (hn i ?_) rfl rfl ?_) | ((with_reducible refine PCall.mark ?_); first | refine PCall.mk (hn i ?_) rfl rfl ?_) | ((with_reducible refine GCall.mark ?_); first | refine GCall.data (fun _ => hn i ?_) rfl rfl ?_ | refine GCall.scal (fun _ => hn i ?_) rfl rfl ?_) | ((with_reducible refine MCall.mark ?_); first | refine MCall.data (fun _ => hn i ?_) rfl rfl ?_ | refine MCall.plain (PCall.mk (hn i ?_) rfl rfl ?_)) | ((with_reducible refine ECall.mark ?_); first | refine ECall.only ?_ (fun h => nomatch h) | refine ECall.only ?_ ?_) | ((with_reducible refine Drawn.mark ?_); first | refine Drawn.quiet (by kernel_rfl) ?_) | refine dloadE_map (([] : List ByteArray)) ?_ ?_ | refine dloadE_map (emB) ?_ ?_ | refine dcell_ok rfl ?_ | refine AppC.new ?_))
  all_goals try ((conv => whnf); with_reducible refine Round.mark ?_)
  all_goals try first | ((with_reducible show Option.isSome (slElem _ _) = true); kernel_rfl) | ((with_reducible show slElem _ _ = some _); kernel_rfl) | ((with_reducible refine enters_mark ?_); kernel_rfl) | (with_reducible assumption) | ((with_reducible show List.all _ DV.one = true); rfl) | ((with_reducible show (_ : Nat) = _); rfl) | ((with_reducible show (_ == true) = true); simpa using h) | ((with_reducible show (_ : Nat) ≤ _); exact Nat.le_of_ble_eq_true rfl) | ((with_reducible show (_ : Int) ≤ _); first | omega | decide) | ((with_reducible show (_ : Int) < _); first | omega | decide) | ((with_reducible show (_ : Nat) < _); omega) | ((with_reducible show (_ : Nat) ≤ _); omega)
  · exact of_decide_eq_true h
  · exact lt_of_test h
  · exact col_in ht hk (lt_of_test h)
  · exact col_at ht hk (lt_of_test h)
  · rfl
  · have h9 : i < t.rows.length := lt_of_test h
    exact h9
  · exact Nat.zero_lt_succ _
  · exact Nat.lt_succ_self _
  · rename_i e0 e1
    have hlt : i < t.rows.length := lt_of_test e0
    refine Round.go (· + 1) hlt (by show t.rows.length - (i + 1) < t.rows.length - i; omega) (Weak.list [] [] (by kernel_rfl) ?_ ?_)
    iterate 2 · repeat' (first | exact wsucc hlt (by have := ht.rows; omega) | exact look_w t k i | exact look_no e1 | exact DW.same _ rfl | exact DW.ref _ _ _ rfl | exact DW.arr _ _ _ rfl | exact OW.cells rfl rfl (DWl.same rfl) | refine OW.cells rfl rfl ?_ | refine DWl.cons ?_ ?_ | exact DWl.nil | exact DW.nilArr _ rfl | exact DW.nilLst _ | refine DW.clol ?_ ?_ | refine DW.aggl ?_ | refine DW.tupl ?_ | refine DW.int ?_ | refine DW.bool ?_ | refine DW.str ?_ | refine DW.arrE rfl ?_ | ((conv => whnf); first | refine And.intro ?_ ?_ | trivial))
  · rename_i e0 e1
    have hlt : i < t.rows.length := lt_of_test e0
    refine Round.go (· + 1) hlt (by show t.rows.length - (i + 1) < t.rows.length - i; omega) (Weak.list [] [] (by kernel_rfl) ?_ ?_)
    iterate 2 · repeat' (first | exact wsucc hlt (by have := ht.rows; omega) | exact look_w t k i | exact look_yes e1 | exact DW.same _ rfl | exact DW.ref _ _ _ rfl | exact DW.arr _ _ _ rfl | exact OW.cells rfl rfl (DWl.same rfl) | refine OW.cells rfl rfl ?_ | refine DWl.cons ?_ ?_ | exact DWl.nil | exact DW.nilArr _ rfl | exact DW.nilLst _ | refine DW.clol ?_ ?_ | refine DW.aggl ?_ | refine DW.tupl ?_ | refine DW.int ?_ | refine DW.bool ?_ | refine DW.str ?_ | refine DW.arrE rfl ?_ | ((conv => whnf); first | refine And.intro ?_ ?_ | trivial))
  · have hi : i = t.rows.length := by have := ge_of_test h; omega
    subst hi
    conv => whnf
    exact Tells.mk (DW.aggl (DWl.same rfl))
end Go.Proofs.YtlchjjchgebfiaaGreatDoor
namespace Go.Proofs.YtlchjjchgebfiaaGreatDoor
open Go.RowKit Go.Dl
attribute [local irreducible] Tri SCall TSem ECall Drawn DFun QSem PSem PCall GCall MCall Round Weak dloadE OW DWl Tells IntKind.wrap Retold ESem
structure Col where
  w : Nat
  r : Bool
def c0 : Col := ⟨0, false⟩
def colC (c : Col) : List DV := [int1 c.w, bl c.r]
def colsL (cs : List Col) : DV := .lst 2 (cs.map colC)
def gapB (c : Col) (s : ByteArray) : ByteArray := repB spaceB (c.w - s.size)
def pieceB (c : Col) (s : ByteArray) : ByteArray := bif c.r then gapB c s ++ drawnB s else drawnB s ++ gapB c s
def piecesI (cs : List Col) (l : List ByteArray) : Nat → List ByteArray
  | 0 => []
  | i + 1 => piecesI cs l i ++ [pieceB (cs.getD i c0) (l.getD i emB)]
def twoB : ByteArray := ⟨#[32, 32]⟩
def dlineB (cs : List Col) (l : List ByteArray) : ByteArray := trimB (joinB twoB (piecesI cs l l.length)) ++ nlB
structure Lin (cs : List Col) (l : List ByteArray) : Prop where
  len : l.length = cs.length
  one : 1 ≤ cs.length ∧ cs.length ≤ 64
  wid : ∀ i, i < l.length → (l.getD i emB).size ≤ (cs.getD i c0).w ∧ (cs.getD i c0).w ≤ 1024
theorem drawnB_size (s : ByteArray) : (drawnB s).size = s.size := by rw [drawnB, bs_size, List.length_map, sz_len]
theorem repB_size (s : ByteArray) (n : Nat) : (repB s n).size = n * s.size := by rw [repB, bs_size, Lib.repeatL_length, sz_len]
theorem piece_size {c : Col} {s : ByteArray} (h : s.size ≤ c.w) : (pieceB c s).size = c.w := by
  have h1 : (gapB c s).size = c.w - s.size := by rw [gapB, repB_size]; exact Nat.mul_one _
  unfold pieceB
  cases c.r with
  | true => show (gapB c s ++ drawnB s).size = _
            rw [ByteArray.size_append, drawnB_size, h1]; omega
  | false => show (drawnB s ++ gapB c s).size = _
             rw [ByteArray.size_append, drawnB_size, h1]; omega
theorem pieces_len (cs : List Col) (l : List ByteArray) : ∀ i, (piecesI cs l i).length = i
  | 0 => rfl
  | i + 1 => by rw [piecesI, List.length_append, pieces_len cs l i]; rfl
theorem pieces_small {cs : List Col} {l : List ByteArray} (h : Lin cs l) : ∀ {i}, i ≤ l.length → ∀ x ∈ piecesI cs l i, x.size ≤ 1024
  | 0, _, x, hx => by cases hx
  | i + 1, hi, x, hx => by
    rw [piecesI, List.mem_append] at hx
    rcases hx with hx | hx
    · exact pieces_small h (by omega) x hx
    · rw [List.mem_singleton] at hx
      subst hx
      obtain ⟨h1, h2⟩ := h.wid i (by omega)
      rw [piece_size h1]; exact h2
theorem tail_len (sep : List UInt8) : ∀ (r : List (List UInt8)) (m : Nat), (∀ x ∈ r, x.length ≤ m) → (Lib.joinTail sep r).length ≤ r.length * (m + sep.length)
  | [], _, _ => Nat.zero_le _
  | x :: r, m, h => by
    have ih := tail_len sep r m fun y hy => h y (List.mem_cons_of_mem _ hy)
    have h1 := h x (List.mem_cons_self ..)
    have e : Lib.joinTail sep (x :: r) = (sep ++ x) ++ Lib.joinTail sep r := rfl
    rw [e, List.length_append, List.length_append, List.length_cons, Nat.succ_mul]; omega
theorem join_size {ws : List ByteArray} {sep : ByteArray} {m : Nat} (h : ∀ x ∈ ws, x.size ≤ m) : (joinB sep ws).size ≤ ws.length * (m + sep.size) := by
  rw [joinB, bs_size]
  cases ws with
  | nil => exact Nat.zero_le _
  | cons x r =>
    rw [List.map_cons, Lib.join_cons, List.length_append, List.length_cons, sz_len, Nat.succ_mul]
    have h1 := h x (List.mem_cons_self ..)
    have h2 := tail_len sep.data.toList (r.map (·.data.toList)) m fun y hy => by
      obtain ⟨z, hz, rfl⟩ := List.mem_map.1 hy
      rw [sz_len]; exact h z (List.mem_cons_of_mem _ hz)
    rw [List.length_map, sz_len] at h2
    omega
theorem trim_size (s : ByteArray) : (trimB s).size ≤ s.size := by
  rw [trimB, bs_size, Lib.trimRightB, List.length_reverse]
  refine Nat.le_trans (List.dropWhile_sublist _).length_le ?_
  rw [List.length_reverse, sz_len]; exact Nat.le_refl _
theorem dl_size {cs : List Col} {l : List ByteArray} (h : Lin cs l) : (joinB twoB (piecesI cs l l.length)).size ≤ 65664 := by
  have h1 := join_size (sep := twoB) (pieces_small h (Nat.le_refl _))
  rw [pieces_len] at h1
  have h2 : l.length ≤ 64 := by rw [h.len]; exact h.one.2
  have : twoB.size = 2 := rfl
  rw [this] at h1
  have h3 : l.length * (1024 + 2) ≤ 64 * (1024 + 2) := Nat.mul_le_mul_right _ h2
  omega
theorem dline_size {cs : List Col} {l : List ByteArray} (h : Lin cs l) : (dlineB cs l).size ≤ 65665 := by
  have h1 := dl_size h
  have h2 := trim_size (joinB twoB (piecesI cs l l.length))
  rw [dlineB, ByteArray.size_append]
  have : nlB.size = 1 := rfl
  omega
theorem strRow {ws : List ByteArray} : ∀ r ∈ ws.map strD, r.length = 1 ∧ r.all isData1 = true := by
  intro r hr
  obtain ⟨x, _, rfl⟩ := List.mem_map.1 hr
  exact ⟨rfl, rfl⟩
def rowS (ws : List ByteArray) : List DV := (ws.map strD).flatten
theorem rowS_len (ws : List ByteArray) : (rowS ws).length = ws.length := by
  induction ws with
  | nil => rfl
  | cons a l ih => show ([_] ++ rowS l).length = _
                   rw [List.length_append, ih]; simp; omega
theorem rowS_all (ws : List ByteArray) : (rowS ws).all noId1 = true := by
  induction ws with
  | nil => rfl
  | cons a l ih => show ([_] ++ rowS l).all noId1 = _
                   rw [List.all_append, ih]; rfl
theorem rowS_push (ws : List ByteArray) (x : ByteArray) : (rowS ws).take (ws.length * 1) ++ [.v (.string x)] = rowS (ws ++ [x]) := by
  rw [List.take_of_length_le (by rw [rowS_len]; omega)]
  simp [rowS, strD]
theorem rowS_zero (cs : List Col) (l : List ByteArray) : rowS (piecesI cs l 0) = [] := rfl
theorem rowS_eq (ws : List ByteArray) : rowS ws = (ws.map strD).flatten := rfl
def gapI (cs : List Col) (l : List ByteArray) (i : Nat) : Int := IntKind.i64.wrap ((((cs.getD (i : Int).toNat c0).w : Nat) : Int) - (((l.getD (i : Int).toNat emB).size : Nat) : Int))
theorem gap_D {cs : List Col} {l : List ByteArray} (h : Lin cs l) (i : Nat) (hi : i < l.length) : DPure Tryz.prog 33 [strV spaceB, int1 (gapI cs l i)] (strV (gapB (cs.getD i c0) (l.getD i emB))) := by
  obtain ⟨h1, h2⟩ := h.wid i hi
  have e : gapI cs l i = (((cs.getD i c0).w - (l.getD i emB).size : Nat) : Int) := by
    unfold gapI
    rw [Int.toNat_natCast, wrapI (by omega) (by omega)]; omega
  rw [e]
  have e2 : spaceB.size = 1 := rfl
  exact rep33_D spaceB _ (by omega) (by rw [e2]; omega)
theorem draw_D {cs : List Col} {l : List ByteArray} (h : Lin cs l) (i : Nat) (hi : i < l.length) : DPure Tryz.prog 35 [strV (l.getD (i : Int).toNat emB)] (strV (drawnB (l.getD i emB))) := by
  obtain ⟨h1, h2⟩ := h.wid i hi
  rw [Int.toNat_natCast]
  exact drawn35_D _ (by omega)
def dlSt (cs : List Col) (l : List ByteArray) (obs : List (Nat × DObj)) (nb oid i : Nat) : St := ⟨⟨nb, []⟩, tmOf [(1, .ref 1 0), (2, .ref 4 0), (4, .arr oid i), (8, strs l), (9, int1 (l.map strD).length), (10, int1 i)], .of (obs ++ [(oid, ⟨9, 1, rowS (piecesI cs l i)⟩)]) 7⟩
theorem aT4 {ρ : Nat → Option Nat} {s : Sto} {pub : Nat → Prop} : DW ρ s pub (.v (.pointer none)) (aB 4 true) := DW.same _ rfl
theorem em0 : bytesD emB = [] := rfl
theorem aB4 {ρ : Nat → Option Nat} {s : Sto} {pub : Nat → Prop} : DW ρ s pub (aB 4 true) (aB 4 true) := DW.same _ rfl
theorem dl_in {cs : List Col} {l : List ByteArray} (hL : Lin cs l) {i : Nat} (hi : i < l.length) : (i : Int) < ((cs.map colC).length : Nat) := by
  rw [List.length_map]; have := hL.len; omega
theorem dl_at {cs : List Col} {l : List ByteArray} (hL : Lin cs l) {i : Nat} (hi : i < l.length) : ((i : Nat) : Int).toNat < cs.length := by
  rw [Int.toNat_natCast]; have := hL.len; omega
theorem dl_sz {cs : List Col} {l : List ByteArray} (hL : Lin cs l) {i : Nat} (hi : i < l.length) : (gapB (cs.getD i c0) (l.getD i emB)).size + (drawnB (l.getD i emB)).size ≤ 9223372036854775807 ∧ (drawnB (l.getD i emB)).size + (gapB (cs.getD i c0) (l.getD i emB)).size ≤ 9223372036854775807 := by
  obtain ⟨h1, h2⟩ := hL.wid i hi
  have h3 : (gapB (cs.getD i c0) (l.getD i emB)).size = (cs.getD i c0).w - (l.getD i emB).size := by rw [gapB, repB_size]; exact Nat.mul_one _
  rw [h3, drawnB_size]; omega
set_option maxRecDepth 20000 in
theorem dl_b1 (cs : List Col) (l : List ByteArray) (i : Nat) : i * Tryz.prog.types[9].size ≤ (rowS (piecesI cs l i)).length := by
  rw [rowS_len, pieces_len]
  show i * 1 ≤ _
  omega
set_option maxRecDepth 20000 in
theorem dl_b2 {i n : Nat} (hi : i < n) (hn : n ≤ 64) : (i + 1) * Tryz.prog.types[9].bytes ≤ 140737488355328 := by
  show (i + 1) * 16 ≤ _
  omega
theorem dl_b3 {i n : Nat} (hi : i < n) (hn : n ≤ 64) : i + 1 ≤ maxLen := by simp only [maxLen]; omega
theorem dl_yes {cs : List Col} {l : List ByteArray} {i : Nat} (h : (cs.getD (i : Int).toNat c0).r = true) : (rowS (piecesI cs l i)).take (i * 1) ++ [.v (.string (gapB (cs.getD i c0) (l.getD i emB) ++ drawnB (l.getD i emB)))] = rowS (piecesI cs l (i + 1)) := by
  rw [Int.toNat_natCast] at h
  have e : pieceB (cs.getD i c0) (l.getD i emB) = gapB (cs.getD i c0) (l.getD i emB) ++ drawnB (l.getD i emB) := by unfold pieceB; rw [h]; rfl
  have := rowS_push (piecesI cs l i) (gapB (cs.getD i c0) (l.getD i emB) ++ drawnB (l.getD i emB))
  rw [pieces_len] at this
  rw [this, piecesI, e]
theorem dl_no {cs : List Col} {l : List ByteArray} {i : Nat} (h : (cs.getD (i : Int).toNat c0).r = false) : (rowS (piecesI cs l i)).take (i * 1) ++ [.v (.string (drawnB (l.getD i emB) ++ gapB (cs.getD i c0) (l.getD i emB)))] = rowS (piecesI cs l (i + 1)) := by
  rw [Int.toNat_natCast] at h
  have e : pieceB (cs.getD i c0) (l.getD i emB) = drawnB (l.getD i emB) ++ gapB (cs.getD i c0) (l.getD i emB) := by unfold pieceB; rw [h]; rfl
  have := rowS_push (piecesI cs l i) (drawnB (l.getD i emB) ++ gapB (cs.getD i c0) (l.getD i emB))
  rw [pieces_len] at this
  rw [this, piecesI, e]
theorem dl_join {cs : List Col} {l : List ByteArray} (hL : Lin cs l) {i : Nat} (h1 : i ≤ l.length) (h2 : l.length ≤ i) : (joinB twoB (piecesI cs l i)).size ≤ 65664 := by
  have : i = l.length := by omega
  subst this; exact dl_size hL
theorem dl_trim {cs : List Col} {l : List ByteArray} (hL : Lin cs l) {i : Nat} (h1 : i ≤ l.length) (h2 : l.length ≤ i) : (trimB (joinB twoB (piecesI cs l i))).size ≤ 65664 := Nat.le_trans (trim_size _) (dl_join hL h1 h2)
theorem dl_end (acc : ByteArray) (cs : List Col) (l : List ByteArray) : bytesD acc ++ bytesD (trimB (joinB twoB (piecesI cs l l.length)) ++ nlB) = bytesD (acc ++ dlineB cs l) := by
  rw [← bytesD_app, dlineB]
theorem dl_endN (acc : ByteArray) (cs : List Col) (l : List ByteArray) : acc.size + (trimB (joinB twoB (piecesI cs l l.length)) ++ nlB).size = (acc ++ dlineB cs l).size := by
  rw [dlineB, ByteArray.size_append (a := acc)]
attribute [local irreducible] aB bytesD rowS piecesI dlineB pieceB gapB drawnB repB trimB joinB
set_option maxRecDepth 20000 in
set_option maxHeartbeats 1000000 in
theorem dlF_S {cs : List Col} {l : List ByteArray} (hL : Lin cs l) (ru : List ByteArray) {t : Tb} {K : DV → Sto → Prop}
    (hK : K (.tup []) (.of [(0, ⟨25, 2, tbD t⟩), (1, ⟨57, 1, [colsL cs]⟩), (3, ⟨9, 1, rowS ru⟩), (4, ⟨65, 2, [.ref 4 0, .arr 5 (emB ++ dlineB cs l).size]⟩), (5, ⟨5, 1, bytesD (emB ++ dlineB cs l)⟩)] 6)) :
    SCall Tryz.prog 34 [strs l, .ref 1 0, .ref 4 0] (.of [(0, ⟨25, 2, tbD t⟩), (1, ⟨57, 1, [colsL cs]⟩), (3, ⟨9, 1, rowS ru⟩), (4, ⟨65, 2, [.v (.pointer none), .v (.slice none 0 0)]⟩)] 5) K := by
  have hg := gap_D hL
  have hd := draw_D hL
  have hl : l.length ≤ 64 := by rw [hL.len]; exact hL.one.2
  have hl1 : 1 ≤ l.length := by rw [hL.len]; exact hL.one.1
  refine SCall.retell (SCall.run Tryz.func34 rfl (Nat.le_of_ble_eq_true rfl) (by kernel_rfl) ?_)
  repeat' (first | with_reducible rfl | ((conv => whnf); first | refine And.intro ?_ ?_ | (intro h; first | with_reducible exact tf_no h | with_reducible exact ft_no h | exact Bool.noConfusion h | with_reducible exact h | (have ht : true = true := h; clear ht h) | skip) | ((with_reducible refine ECall.mark ?_); first | refine ECall.only ?_ (fun h => nomatch h) | refine ECall.only ?_ ?_) | ((with_reducible refine Drawn.mark ?_); first | refine Drawn.quiet (by kernel_rfl) ?_) | refine dloadE_map (emB) ?_ ?_ | refine dcell_ok rfl ?_ | refine AppC.new ?_))
  all_goals first | (with_reducible refine enters_mark ?_; kernel_rfl) | (with_reducible refine boolT_mark ?_; kernel_rfl) | rfl | trivial | assumption | exact Nat.le_of_ble_eq_true rfl | (show entersB _ _ = true; kernel_rfl) | exact DW.same _ rfl | exact DW.ref _ _ _ rfl | exact DW.arr _ _ _ rfl | refine DW.int ?_ | refine dvb ?_ | refine dvi ?_ | exact OW.cells rfl rfl (DWl.same rfl) | exact Nat.zero_le _ | omega | skip
  all_goals repeat' (first | refine OW.cells rfl rfl ?_ | exact DW.nilArr _ rfl | refine DWl.cons ?_ ?_ | exact DWl.nil | exact DW.same _ rfl | exact DW.ref _ _ _ rfl | exact DW.arr _ _ _ rfl | exact DW.sub _ _ _ _ rfl | exact DW.mo _ _ rfl | exact DW.nilLst _ | refine DW.aggl ?_ | refine DW.tupl ?_ | refine DW.clol ?_ ?_)
  all_goals try ((conv => whnf); with_reducible first | refine Round.mark ?_ | refine Tells.mark ?_ | refine Retold.mark ?_)
  all_goals try first | (show (_ : Bool) = _; simp_all; done) | (show (_ : Int) < _; simp at *; omega) | (show (_ : Int) ≤ _; simp at *; omega) | (show (_ : Nat) < _; simp at *; omega) | (show (_ : Nat) ≤ _; simp at *; omega)
  conv => whnf
  refine Tri.loop (dlSt cs l [(0, ⟨25, 2, tbD t⟩), (1, ⟨57, 1, [colsL cs]⟩), (3, ⟨9, 1, rowS ru⟩), (4, ⟨65, 2, [aB 4 true, .arr 6 0]⟩), (6, ⟨5, 1, bytesD emB⟩)] 5 5) (· ≤ l.length) (fun i => l.length - i) 0 (by kernel_rfl) (Weak.list [(5, none), (6, none)] [] (by kernel_rfl) ?_ ?_) (Nat.zero_le _) ?_
  iterate 2 · repeat' (first | exact aT4 | exact aB4 | exact em0 | exact rowS_zero _ _ | exact DW.nilArr _ rfl | exact DWl.same rfl | exact DWl.eq rfl (rowS_all _) | exact DWl.eq rfl (bytesD_all _) | exact DW.same _ rfl | exact DW.ref _ _ _ rfl | exact DW.arr _ _ _ rfl | exact OW.cells rfl rfl (DWl.same rfl) | refine OW.cells rfl rfl ?_ | refine DWl.cons ?_ ?_ | exact DWl.nil | exact DW.nilArr _ rfl | exact DW.nilLst _ | refine DW.clol ?_ ?_ | refine DW.aggl ?_ | refine DW.tupl ?_ | refine DW.int ?_ | refine DW.bool ?_ | refine DW.str ?_ | refine DW.arrE rfl ?_ | ((conv => whnf); first | refine And.intro ?_ ?_ | trivial))
  intro i hi
  have hi : i ≤ l.length := hi
  show dcode _ _ _ _ (dlSt cs l [(0, ⟨25, 2, tbD t⟩), (1, ⟨57, 1, [colsL cs]⟩), (3, ⟨9, 1, rowS ru⟩), (4, ⟨65, 2, [aB 4 true, .arr 6 0]⟩), (6, ⟨5, 1, bytesD emB⟩)] 5 5 i) _
  repeat' (first | with_reducible rfl | ((conv => whnf); first | refine And.intro ?_ ?_ | (intro h; first | with_reducible exact tf_no h | with_reducible exact ft_no h | exact Bool.noConfusion h | with_reducible exact h | (have ht : true = true := h; clear ht h) | skip) | ((with_reducible refine DWl.mark ?_); repeat' (first | refine DWl.cons ?_ ?_ | exact DWl.nil | exact DW.same _ rfl | exact DW.ref _ _ _ rfl | exact DW.arr _ _ _ rfl | exact DW.sub _ _ _ _ rfl | exact DW.mo _ _ rfl | exact DW.nilLst _ | refine DW.aggl ?_ | refine DW.tupl ?_ | refine DW.clol ?_ ?_ | exact DW.pubM rfl (pieces_len _ _ _) rfl rfl strRow (rowS_eq _) | refine DW.int ?_ | refine DW.bool ?_ | refine DW.str ?_)) | ((with_reducible refine SCall.mark ?_); first | refine SCall.data (hg i ?_) rfl rfl ?_ | refine SCall.scal (hg i ?_) rfl rfl ?_ | refine SCall.data (hd i ?_) rfl rfl ?_ | refine SCall.scal (hd i ?_) rfl rfl ?_ | refine SCall.run Tryz.func36 rfl (Nat.le_of_ble_eq_true rfl) (by kernel_rfl) ?_ | refine cc70_S rfl ?_ | (refine SCall.scalT (join38_D (piecesI cs l i) twoB ?_ ?_ ?_) ?dwq rfl ?_; case dwq => (repeat' (first | refine DWl.cons ?_ ?_ | exact DWl.nil | exact DW.same _ rfl | exact DW.ref _ _ _ rfl | exact DW.arr _ _ _ rfl | exact DW.sub _ _ _ _ rfl | exact DW.mo _ _ rfl | exact DW.nilLst _ | refine DW.aggl ?_ | refine DW.tupl ?_ | refine DW.clol ?_ ?_ | exact DW.pubM rfl (pieces_len _ _ _) rfl rfl strRow (rowS_eq _) | refine DW.int ?_ | refine DW.bool ?_ | refine DW.str ?_))) | refine SCall.data (trim37_D (joinB twoB (piecesI cs l i)) ?_) rfl rfl ?_ | refine SCall.scal (trim37_D (joinB twoB (piecesI cs l i)) ?_) rfl rfl ?_) | ((with_reducible refine PCall.mark ?_); first | refine PCall.mk (hg i ?_) rfl rfl ?_ | refine PCall.mk (hd i ?_) rfl rfl ?_ | refine PCall.mk (trim37_D (joinB twoB (piecesI cs l i)) ?_) rfl rfl ?_) | ((with_reducible refine GCall.mark ?_); first | refine GCall.data (fun _ => hg i ?_) rfl rfl ?_ | refine GCall.scal (fun _ => hg i ?_) rfl rfl ?_ | refine GCall.data (fun _ => hd i ?_) rfl rfl ?_ | refine GCall.scal (fun _ => hd i ?_) rfl rfl ?_ | (refine GCall.scalT (fun _ => join38_D (piecesI cs l i) twoB ?_ ?_ ?_) ?dwq rfl ?_; case dwq => (intro _; repeat' (first | refine DWl.cons ?_ ?_ | exact DWl.nil | exact DW.same _ rfl | exact DW.ref _ _ _ rfl | exact DW.arr _ _ _ rfl | exact DW.sub _ _ _ _ rfl | exact DW.mo _ _ rfl | exact DW.nilLst _ | refine DW.aggl ?_ | refine DW.tupl ?_ | refine DW.clol ?_ ?_ | exact DW.pubM rfl (pieces_len _ _ _) rfl rfl strRow (rowS_eq _) | refine DW.int ?_ | refine DW.bool ?_ | refine DW.str ?_))) | refine GCall.data (fun _ => trim37_D (joinB twoB (piecesI cs l i)) ?_) rfl rfl ?_ | refine GCall.scal (fun _ => trim37_D (joinB twoB (piecesI cs l i)) ?_) rfl rfl ?_) | ((with_reducible refine MCall.mark ?_); first | refine MCall.data (fun _ => hg i ?_) rfl rfl ?_ | refine MCall.plain (PCall.mk (hg i ?_) rfl rfl ?_) | refine MCall.data (fun _ => hd i ?_) rfl rfl ?_ | refine MCall.plain (PCall.mk (hd i ?_) rfl rfl ?_) | refine MCall.data (fun _ => trim37_D (joinB twoB (piecesI cs l i)) ?_) rfl rfl ?_ | refine MCall.plain (PCall.mk (trim37_D (joinB twoB (piecesI cs l i)) ?_) rfl rfl ?_)) | ((with_reducible refine ECall.mark ?_); first | refine ECall.only ?_ (fun h => nomatch h) | refine ECall.only ?_ ?_) | ((with_reducible refine Drawn.mark ?_); first | refine Drawn.quiet (by kernel_rfl) ?_) | refine dloadE_map (emB) ?_ ?_ | refine dloadE_map (c0) ?_ ?_ | refine app63 rfl rfl rfl rfl rfl ?_ ?_ ?_ | refine dcell_ok rfl ?_ | refine AppC.new ?_))
  all_goals try ((conv => whnf); with_reducible refine Round.mark ?_)
  all_goals try first | ((with_reducible show Option.isSome (slElem _ _) = true); kernel_rfl) | ((with_reducible show slElem _ _ = some _); kernel_rfl) | ((with_reducible refine enters_mark ?_); kernel_rfl) | (with_reducible assumption) | ((with_reducible show List.all _ DV.one = true); rfl) | ((with_reducible show (_ : Nat) = _); rfl) | ((with_reducible show (_ == true) = true); simpa using h) | ((with_reducible show (_ : Nat) ≤ _); exact Nat.le_of_ble_eq_true rfl) | ((with_reducible show (_ : Int) ≤ _); first | omega | decide) | ((with_reducible show (_ : Int) < _); first | omega | decide) | ((with_reducible show (_ : Nat) < _); omega) | ((with_reducible show (_ : Nat) ≤ _); omega)
  · exact of_decide_eq_true h
  · exact lt_of_test h
  · exact dl_in hL (lt_of_test h)
  · exact dl_at hL (lt_of_test h)
  · rfl
  · have h9 : i < l.length := lt_of_test h
    exact h9
  · exact dl_in hL (lt_of_test h)
  · exact dl_at hL (lt_of_test h)
  · rename_i e1
    have h9 : i < l.length := lt_of_test e1
    exact h9
  · rename_i e1
    exact (dl_sz hL (lt_of_test e1)).1
  · exact dl_b1 cs l i
  · rename_i e1
    exact dl_b2 (lt_of_test e1) hl
  · rename_i e1
    exact dl_b3 (lt_of_test e1) hl
  · rename_i e1
    have hlt : i < l.length := lt_of_test e1
    refine Round.go (· + 1) hlt (by show l.length - (i + 1) < l.length - i; omega) (Weak.list [(5, some 8), (6, some 6)] [] (by kernel_rfl) ?_ ?_)
    iterate 2 · repeat' (first | exact aT4 | exact aB4 | exact em0 | exact wsucc hlt (by omega) | exact DWl.eq (dl_yes h) (rowS_all _) | exact DWl.eq rfl (rowS_all _) | exact DWl.eq rfl (bytesD_all _) | exact DW.same _ rfl | exact DW.ref _ _ _ rfl | exact DW.arr _ _ _ rfl | exact OW.cells rfl rfl (DWl.same rfl) | refine OW.cells rfl rfl ?_ | refine DWl.cons ?_ ?_ | exact DWl.nil | exact DW.nilArr _ rfl | exact DW.nilLst _ | refine DW.clol ?_ ?_ | refine DW.aggl ?_ | refine DW.tupl ?_ | refine DW.int ?_ | refine DW.bool ?_ | refine DW.str ?_ | refine DW.arrE rfl ?_ | ((conv => whnf); first | refine And.intro ?_ ?_ | trivial))
  · rename_i e1
    have h9 : i < l.length := lt_of_test e1
    exact h9
  · rename_i e1
    exact (dl_sz hL (lt_of_test e1)).2
  · exact dl_b1 cs l i
  · rename_i e1
    exact dl_b2 (lt_of_test e1) hl
  · rename_i e1
    exact dl_b3 (lt_of_test e1) hl
  · rename_i e1
    have hlt : i < l.length := lt_of_test e1
    refine Round.go (· + 1) hlt (by show l.length - (i + 1) < l.length - i; omega) (Weak.list [(5, some 8), (6, some 6)] [] (by kernel_rfl) ?_ ?_)
    iterate 2 · repeat' (first | exact aT4 | exact aB4 | exact em0 | exact wsucc hlt (by omega) | exact DWl.eq (dl_no h) (rowS_all _) | exact DWl.eq rfl (rowS_all _) | exact DWl.eq rfl (bytesD_all _) | exact DW.same _ rfl | exact DW.ref _ _ _ rfl | exact DW.arr _ _ _ rfl | exact OW.cells rfl rfl (DWl.same rfl) | refine OW.cells rfl rfl ?_ | refine DWl.cons ?_ ?_ | exact DWl.nil | exact DW.nilArr _ rfl | exact DW.nilLst _ | refine DW.clol ?_ ?_ | refine DW.aggl ?_ | refine DW.tupl ?_ | refine DW.int ?_ | refine DW.bool ?_ | refine DW.str ?_ | refine DW.arrE rfl ?_ | ((conv => whnf); first | refine And.intro ?_ ?_ | trivial))
  · have := ge_of_test h
    rw [pieces_len]; omega
  · have := dl_join hL hi (ge_of_test h)
    omega
  · rw [pieces_len]; omega
  · have := dl_join hL hi (ge_of_test h)
    omega
  · have := dl_trim hL hi (ge_of_test h)
    show _ + 1 ≤ _
    omega
  · exact bytesD_len _
  · have := dl_trim hL hi (ge_of_test h)
    rw [ByteArray.size_append]
    show 0 + (_ + 1) ≤ _
    omega
  · rfl
  · have hi : i = l.length := by have := ge_of_test h; omega
    subst hi
    conv => whnf
    refine Retold.list [(5, some 7)] [] (.tup []) [(0, ⟨25, 2, tbD t⟩), (1, ⟨57, 1, [colsL cs]⟩), (3, ⟨9, 1, rowS ru⟩), (4, ⟨65, 2, [.ref 4 0, .arr 5 (emB ++ dlineB cs l).size]⟩), (5, ⟨5, 1, bytesD (emB ++ dlineB cs l)⟩)] 6 (by kernel_rfl) ?_ ?_ hK
    iterate 2 · repeat' (first | exact DWl.eq (dl_end emB _ _) (bytesD_all _) | exact dl_endN emB _ _ | exact DWl.eq rfl (rowS_all _) | exact DW.same _ rfl | exact DW.ref _ _ _ rfl | exact DW.arr _ _ _ rfl | exact OW.cells rfl rfl (DWl.same rfl) | refine OW.cells rfl rfl ?_ | refine DWl.cons ?_ ?_ | exact DWl.nil | exact DW.nilArr _ rfl | exact DW.nilLst _ | refine DW.clol ?_ ?_ | refine DW.aggl ?_ | refine DW.tupl ?_ | refine DW.int ?_ | refine DW.bool ?_ | refine DW.str ?_ | refine DW.arrE rfl ?_ | ((conv => whnf); first | refine And.intro ?_ ?_ | trivial))
set_option maxRecDepth 20000 in
set_option maxHeartbeats 1000000 in
theorem dlU_S {cs : List Col} {l : List ByteArray} (hL : Lin cs l) (acc : ByteArray) (hacc : acc.size ≤ 1000000000) {t : Tb} {K : DV → Sto → Prop}
    (hK : K (.tup []) (.of [(0, ⟨25, 2, tbD t⟩), (1, ⟨57, 1, [colsL cs]⟩), (4, ⟨65, 2, [.ref 4 0, .arr 6 (acc ++ dlineB cs l).size]⟩), (6, ⟨5, 1, bytesD (acc ++ dlineB cs l)⟩)] 7)) :
    SCall Tryz.prog 34 [strs l, .ref 1 0, .ref 4 0] (.of [(0, ⟨25, 2, tbD t⟩), (1, ⟨57, 1, [colsL cs]⟩), (4, ⟨65, 2, [.ref 4 0, .arr 5 acc.size]⟩), (5, ⟨5, 1, bytesD acc⟩)] 6) K := by
  have hg := gap_D hL
  have hd := draw_D hL
  have hl : l.length ≤ 64 := by rw [hL.len]; exact hL.one.2
  have hl1 : 1 ≤ l.length := by rw [hL.len]; exact hL.one.1
  refine SCall.retell (SCall.run Tryz.func34 rfl (Nat.le_of_ble_eq_true rfl) (by kernel_rfl) ?_)
  repeat' (first | with_reducible rfl | ((conv => whnf); first | refine And.intro ?_ ?_ | (intro h; first | with_reducible exact tf_no h | with_reducible exact ft_no h | exact Bool.noConfusion h | with_reducible exact h | (have ht : true = true := h; clear ht h) | skip) | ((with_reducible refine ECall.mark ?_); first | refine ECall.only ?_ (fun h => nomatch h) | refine ECall.only ?_ ?_) | ((with_reducible refine Drawn.mark ?_); first | refine Drawn.quiet (by kernel_rfl) ?_) | refine dloadE_map (emB) ?_ ?_ | refine dcell_ok rfl ?_ | refine AppC.new ?_))
  all_goals first | (with_reducible refine enters_mark ?_; kernel_rfl) | (with_reducible refine boolT_mark ?_; kernel_rfl) | rfl | trivial | assumption | exact Nat.le_of_ble_eq_true rfl | (show entersB _ _ = true; kernel_rfl) | exact DW.same _ rfl | exact DW.ref _ _ _ rfl | exact DW.arr _ _ _ rfl | refine DW.int ?_ | refine dvb ?_ | refine dvi ?_ | exact OW.cells rfl rfl (DWl.same rfl) | exact Nat.zero_le _ | omega | skip
  all_goals repeat' (first | refine OW.cells rfl rfl ?_ | exact DW.nilArr _ rfl | refine DWl.cons ?_ ?_ | exact DWl.nil | exact DW.same _ rfl | exact DW.ref _ _ _ rfl | exact DW.arr _ _ _ rfl | exact DW.sub _ _ _ _ rfl | exact DW.mo _ _ rfl | exact DW.nilLst _ | refine DW.aggl ?_ | refine DW.tupl ?_ | refine DW.clol ?_ ?_)
  all_goals try ((conv => whnf); with_reducible first | refine Round.mark ?_ | refine Tells.mark ?_ | refine Retold.mark ?_)
  all_goals try first | (show (_ : Bool) = _; simp_all; done) | (show (_ : Int) < _; simp at *; omega) | (show (_ : Int) ≤ _; simp at *; omega) | (show (_ : Nat) < _; simp at *; omega) | (show (_ : Nat) ≤ _; simp at *; omega)
  conv => whnf
  refine Tri.loop (dlSt cs l [(0, ⟨25, 2, tbD t⟩), (1, ⟨57, 1, [colsL cs]⟩), (4, ⟨65, 2, [.ref 4 0, .arr 5 acc.size]⟩), (5, ⟨5, 1, bytesD acc⟩)] 6 6) (· ≤ l.length) (fun i => l.length - i) 0 (by kernel_rfl) (Weak.list [(6, none)] [] (by kernel_rfl) ?_ ?_) (Nat.zero_le _) ?_
  iterate 2 · repeat' (first | exact rowS_zero _ _ | exact DW.nilArr _ rfl | exact DWl.same rfl | exact DWl.eq rfl (rowS_all _) | exact DWl.eq rfl (bytesD_all _) | exact DW.same _ rfl | exact DW.ref _ _ _ rfl | exact DW.arr _ _ _ rfl | exact OW.cells rfl rfl (DWl.same rfl) | refine OW.cells rfl rfl ?_ | refine DWl.cons ?_ ?_ | exact DWl.nil | exact DW.nilArr _ rfl | exact DW.nilLst _ | refine DW.clol ?_ ?_ | refine DW.aggl ?_ | refine DW.tupl ?_ | refine DW.int ?_ | refine DW.bool ?_ | refine DW.str ?_ | refine DW.arrE rfl ?_ | ((conv => whnf); first | refine And.intro ?_ ?_ | trivial))
  intro i hi
  have hi : i ≤ l.length := hi
  show dcode _ _ _ _ (dlSt cs l [(0, ⟨25, 2, tbD t⟩), (1, ⟨57, 1, [colsL cs]⟩), (4, ⟨65, 2, [.ref 4 0, .arr 5 acc.size]⟩), (5, ⟨5, 1, bytesD acc⟩)] 6 6 i) _
  repeat' (first | with_reducible rfl | ((conv => whnf); first | refine And.intro ?_ ?_ | (intro h; first | with_reducible exact tf_no h | with_reducible exact ft_no h | exact Bool.noConfusion h | with_reducible exact h | (have ht : true = true := h; clear ht h) | skip) | ((with_reducible refine DWl.mark ?_); repeat' (first | refine DWl.cons ?_ ?_ | exact DWl.nil | exact DW.same _ rfl | exact DW.ref _ _ _ rfl | exact DW.arr _ _ _ rfl | exact DW.sub _ _ _ _ rfl | exact DW.mo _ _ rfl | exact DW.nilLst _ | refine DW.aggl ?_ | refine DW.tupl ?_ | refine DW.clol ?_ ?_ | exact DW.pubM rfl (pieces_len _ _ _) rfl rfl strRow (rowS_eq _) | refine DW.int ?_ | refine DW.bool ?_ | refine DW.str ?_)) | ((with_reducible refine SCall.mark ?_); first | refine SCall.data (hg i ?_) rfl rfl ?_ | refine SCall.scal (hg i ?_) rfl rfl ?_ | refine SCall.data (hd i ?_) rfl rfl ?_ | refine SCall.scal (hd i ?_) rfl rfl ?_ | refine SCall.run Tryz.func36 rfl (Nat.le_of_ble_eq_true rfl) (by kernel_rfl) ?_ | refine cc70_U rfl ?_ | (refine SCall.scalT (join38_D (piecesI cs l i) twoB ?_ ?_ ?_) ?dwq rfl ?_; case dwq => (repeat' (first | refine DWl.cons ?_ ?_ | exact DWl.nil | exact DW.same _ rfl | exact DW.ref _ _ _ rfl | exact DW.arr _ _ _ rfl | exact DW.sub _ _ _ _ rfl | exact DW.mo _ _ rfl | exact DW.nilLst _ | refine DW.aggl ?_ | refine DW.tupl ?_ | refine DW.clol ?_ ?_ | exact DW.pubM rfl (pieces_len _ _ _) rfl rfl strRow (rowS_eq _) | refine DW.int ?_ | refine DW.bool ?_ | refine DW.str ?_))) | refine SCall.data (trim37_D (joinB twoB (piecesI cs l i)) ?_) rfl rfl ?_ | refine SCall.scal (trim37_D (joinB twoB (piecesI cs l i)) ?_) rfl rfl ?_) | ((with_reducible refine PCall.mark ?_); first | refine PCall.mk (hg i ?_) rfl rfl ?_ | refine PCall.mk (hd i ?_) rfl rfl ?_ | refine PCall.mk (trim37_D (joinB twoB (piecesI cs l i)) ?_) rfl rfl ?_) | ((with_reducible refine GCall.mark ?_); first | refine GCall.data (fun _ => hg i ?_) rfl rfl ?_ | refine GCall.scal (fun _ => hg i ?_) rfl rfl ?_ | refine GCall.data (fun _ => hd i ?_) rfl rfl ?_ | refine GCall.scal (fun _ => hd i ?_) rfl rfl ?_ | (refine GCall.scalT (fun _ => join38_D (piecesI cs l i) twoB ?_ ?_ ?_) ?dwq rfl ?_; case dwq => (intro _; repeat' (first | refine DWl.cons ?_ ?_ | exact DWl.nil | exact DW.same _ rfl | exact DW.ref _ _ _ rfl | exact DW.arr _ _ _ rfl | exact DW.sub _ _ _ _ rfl | exact DW.mo _ _ rfl | exact DW.nilLst _ | refine DW.aggl ?_ | refine DW.tupl ?_ | refine DW.clol ?_ ?_ | exact DW.pubM rfl (pieces_len _ _ _) rfl rfl strRow (rowS_eq _) | refine DW.int ?_ | refine DW.bool ?_ | refine DW.str ?_))) | refine GCall.data (fun _ => trim37_D (joinB twoB (piecesI cs l i)) ?_) rfl rfl ?_ | refine GCall.scal (fun _ => trim37_D (joinB twoB (piecesI cs l i)) ?_) rfl rfl ?_) | ((with_reducible refine MCall.mark ?_); first | refine MCall.data (fun _ => hg i ?_) rfl rfl ?_ | refine MCall.plain (PCall.mk (hg i ?_) rfl rfl ?_) | refine MCall.data (fun _ => hd i ?_) rfl rfl ?_ | refine MCall.plain (PCall.mk (hd i ?_) rfl rfl ?_) | refine MCall.data (fun _ => trim37_D (joinB twoB (piecesI cs l i)) ?_) rfl rfl ?_ | refine MCall.plain (PCall.mk (trim37_D (joinB twoB (piecesI cs l i)) ?_) rfl rfl ?_)) | ((with_reducible refine ECall.mark ?_); first | refine ECall.only ?_ (fun h => nomatch h) | refine ECall.only ?_ ?_) | ((with_reducible refine Drawn.mark ?_); first | refine Drawn.quiet (by kernel_rfl) ?_) | refine dloadE_map (emB) ?_ ?_ | refine dloadE_map (c0) ?_ ?_ | refine app63 rfl rfl rfl rfl rfl ?_ ?_ ?_ | refine dcell_ok rfl ?_ | refine AppC.new ?_))
  all_goals try ((conv => whnf); with_reducible refine Round.mark ?_)
  all_goals try first | ((with_reducible show Option.isSome (slElem _ _) = true); kernel_rfl) | ((with_reducible show slElem _ _ = some _); kernel_rfl) | ((with_reducible refine enters_mark ?_); kernel_rfl) | (with_reducible assumption) | ((with_reducible show List.all _ DV.one = true); rfl) | ((with_reducible show (_ : Nat) = _); rfl) | ((with_reducible show (_ == true) = true); simpa using h) | ((with_reducible show (_ : Nat) ≤ _); exact Nat.le_of_ble_eq_true rfl) | ((with_reducible show (_ : Int) ≤ _); first | omega | decide) | ((with_reducible show (_ : Int) < _); first | omega | decide) | ((with_reducible show (_ : Nat) < _); omega) | ((with_reducible show (_ : Nat) ≤ _); omega)
  · exact of_decide_eq_true h
  · exact lt_of_test h
  · exact dl_in hL (lt_of_test h)
  · exact dl_at hL (lt_of_test h)
  · rfl
  · have h9 : i < l.length := lt_of_test h
    exact h9
  · exact dl_in hL (lt_of_test h)
  · exact dl_at hL (lt_of_test h)
  · rename_i e1
    have h9 : i < l.length := lt_of_test e1
    exact h9
  · rename_i e1
    exact (dl_sz hL (lt_of_test e1)).1
  · exact dl_b1 cs l i
  · rename_i e1
    exact dl_b2 (lt_of_test e1) hl
  · rename_i e1
    exact dl_b3 (lt_of_test e1) hl
  · rename_i e1
    have hlt : i < l.length := lt_of_test e1
    refine Round.go (· + 1) hlt (by show l.length - (i + 1) < l.length - i; omega) (Weak.list [(6, some 8)] [] (by kernel_rfl) ?_ ?_)
    iterate 2 · repeat' (first | exact wsucc hlt (by omega) | exact DWl.eq (dl_yes h) (rowS_all _) | exact DWl.eq rfl (rowS_all _) | exact DWl.eq rfl (bytesD_all _) | exact DW.same _ rfl | exact DW.ref _ _ _ rfl | exact DW.arr _ _ _ rfl | exact OW.cells rfl rfl (DWl.same rfl) | refine OW.cells rfl rfl ?_ | refine DWl.cons ?_ ?_ | exact DWl.nil | exact DW.nilArr _ rfl | exact DW.nilLst _ | refine DW.clol ?_ ?_ | refine DW.aggl ?_ | refine DW.tupl ?_ | refine DW.int ?_ | refine DW.bool ?_ | refine DW.str ?_ | refine DW.arrE rfl ?_ | ((conv => whnf); first | refine And.intro ?_ ?_ | trivial))
  · rename_i e1
    have h9 : i < l.length := lt_of_test e1
    exact h9
  · rename_i e1
    exact (dl_sz hL (lt_of_test e1)).2
  · exact dl_b1 cs l i
  · rename_i e1
    exact dl_b2 (lt_of_test e1) hl
  · rename_i e1
    exact dl_b3 (lt_of_test e1) hl
  · rename_i e1
    have hlt : i < l.length := lt_of_test e1
    refine Round.go (· + 1) hlt (by show l.length - (i + 1) < l.length - i; omega) (Weak.list [(6, some 8)] [] (by kernel_rfl) ?_ ?_)
    iterate 2 · repeat' (first | exact wsucc hlt (by omega) | exact DWl.eq (dl_no h) (rowS_all _) | exact DWl.eq rfl (rowS_all _) | exact DWl.eq rfl (bytesD_all _) | exact DW.same _ rfl | exact DW.ref _ _ _ rfl | exact DW.arr _ _ _ rfl | exact OW.cells rfl rfl (DWl.same rfl) | refine OW.cells rfl rfl ?_ | refine DWl.cons ?_ ?_ | exact DWl.nil | exact DW.nilArr _ rfl | exact DW.nilLst _ | refine DW.clol ?_ ?_ | refine DW.aggl ?_ | refine DW.tupl ?_ | refine DW.int ?_ | refine DW.bool ?_ | refine DW.str ?_ | refine DW.arrE rfl ?_ | ((conv => whnf); first | refine And.intro ?_ ?_ | trivial))
  · have := ge_of_test h
    rw [pieces_len]; omega
  · have := dl_join hL hi (ge_of_test h)
    omega
  · rw [pieces_len]; omega
  · have := dl_join hL hi (ge_of_test h)
    omega
  · have := dl_trim hL hi (ge_of_test h)
    show _ + 1 ≤ _
    omega
  · exact bytesD_len _
  · have := dl_trim hL hi (ge_of_test h)
    rw [ByteArray.size_append]
    show acc.size + (_ + 1) ≤ _
    omega
  · rfl
  · have hi : i = l.length := by have := ge_of_test h; omega
    subst hi
    conv => whnf
    refine Retold.list [(6, some 7)] [] (.tup []) [(0, ⟨25, 2, tbD t⟩), (1, ⟨57, 1, [colsL cs]⟩), (4, ⟨65, 2, [.ref 4 0, .arr 6 (acc ++ dlineB cs l).size]⟩), (6, ⟨5, 1, bytesD (acc ++ dlineB cs l)⟩)] 7 (by kernel_rfl) ?_ ?_ hK
    iterate 2 · repeat' (first | exact DWl.eq (dl_end acc _ _) (bytesD_all _) | exact dl_endN acc _ _ | exact DWl.eq rfl (rowS_all _) | exact DW.same _ rfl | exact DW.ref _ _ _ rfl | exact DW.arr _ _ _ rfl | exact OW.cells rfl rfl (DWl.same rfl) | refine OW.cells rfl rfl ?_ | refine DWl.cons ?_ ?_ | exact DWl.nil | exact DW.nilArr _ rfl | exact DW.nilLst _ | refine DW.clol ?_ ?_ | refine DW.aggl ?_ | refine DW.tupl ?_ | refine DW.int ?_ | refine DW.bool ?_ | refine DW.str ?_ | refine DW.arrE rfl ?_ | ((conv => whnf); first | refine And.intro ?_ ?_ | trivial))
end Go.Proofs.YtlchjjchgebfiaaGreatDoor
namespace Go.Proofs.YtlchjjchgebfiaaGreatDoor
open Go.RowKit Go.Dl
attribute [local irreducible] Tri SCall TSem ECall Drawn DFun QSem PSem PCall GCall MCall Round Weak dloadE OW DWl Tells IntKind.wrap Retold ESem
def wN (t : Tb) (k : Nat) : Nat → Nat
  | 0 => (t.head.getD k emB).size
  | i + 1 => if wN t k i < (celA t k i).size then (celA t k i).size else wN t k i
theorem wI_eq (t : Tb) (k : Nat) : ∀ i, wI t k i = ((wN t k i : Nat) : Int)
  | 0 => rfl
  | i + 1 => by
    rw [wI, wN, wI_eq t k i]
    by_cases h : wN t k i < (celA t k i).size
    · rw [if_pos h, if_pos (by omega)]
    · rw [if_neg h, if_neg (by omega)]
def colA (t : Tb) (k : Nat) : Col := ⟨wN t k t.rows.length, rI t k t.rows.length⟩
def cols (t : Tb) : List Col := (List.range t.head.length).map (colA t)
def dashB : ByteArray := ⟨#[45]⟩
def rulA (t : Tb) (k : Nat) : ByteArray := repB dashB (wN t k t.rows.length)
def rule (t : Tb) : List ByteArray := (List.range t.head.length).map (rulA t)
theorem cols_len (t : Tb) : (cols t).length = t.head.length := by rw [cols, List.length_map, List.length_range]
theorem rule_len (t : Tb) : (rule t).length = t.head.length := by rw [rule, List.length_map, List.length_range]
theorem cols_at {t : Tb} {k : Nat} (h : k < t.head.length) : (cols t).getD k c0 = colA t k := by
  rw [cols, List.getD_eq_getElem?_getD, List.getElem?_map, List.getElem?_range h]; rfl
theorem rule_at {t : Tb} {k : Nat} (h : k < t.head.length) : (rule t).getD k emB = rulA t k := by
  rw [rule, List.getD_eq_getElem?_getD, List.getElem?_map, List.getElem?_range h]; rfl
theorem wN_head {t : Tb} {k : Nat} : ∀ i, (t.head.getD k emB).size ≤ wN t k i
  | 0 => Nat.le_refl _
  | i + 1 => by
    have := wN_head (t := t) (k := k) i
    rw [wN]; split <;> omega
theorem wN_cell {t : Tb} {k j : Nat} : ∀ {i}, j < i → (celA t k j).size ≤ wN t k i
  | 0, h => by omega
  | i + 1, h => by
    rw [wN]
    rcases Nat.lt_succ_iff_lt_or_eq.1 h with h1 | h1
    · have := wN_cell (t := t) (k := k) h1
      split <;> omega
    · subst h1; split <;> omega
theorem wN_le {t : Tb} (ht : Tbl t) {k : Nat} (hk : k < t.head.length) : ∀ {i}, i ≤ t.rows.length → wN t k i ≤ 1024
  | 0, _ => by
    refine ht.small _ (.inl rfl) _ ?_
    rw [List.getD_eq_getElem?_getD, List.getElem?_eq_getElem hk]; exact List.getElem_mem hk
  | i + 1, h => by
    have h1 := wN_le ht hk (i := i) (by omega)
    have h2 := cel_size ht hk (i := i) (by omega)
    rw [wN]; split <;> omega
theorem lin_head {t : Tb} (ht : Tbl t) : Lin (cols t) t.head := by
  refine ⟨(cols_len t).symm, by rw [cols_len]; exact ht.head, fun k hk => ?_⟩
  rw [cols_at hk]
  exact ⟨wN_head _, wN_le ht hk (Nat.le_refl _)⟩
theorem lin_rule {t : Tb} (ht : Tbl t) : Lin (cols t) (rule t) := by
  refine ⟨by rw [cols_len, rule_len], by rw [cols_len]; exact ht.head, fun k hk => ?_⟩
  rw [rule_len] at hk
  rw [cols_at hk, rule_at hk, rulA, repB_size]
  exact ⟨by rw [show dashB.size = 1 from rfl, Nat.mul_one]; exact Nat.le_refl _, wN_le ht hk (Nat.le_refl _)⟩
theorem lin_row {t : Tb} (ht : Tbl t) {i : Nat} (hi : i < t.rows.length) : Lin (cols t) (t.rows.getD i []) := by
  have hl := ht.even _ (row_mem hi)
  refine ⟨by rw [cols_len, hl], by rw [cols_len]; exact ht.head, fun k hk => ?_⟩
  rw [hl] at hk
  rw [cols_at hk]
  exact ⟨wN_cell (k := k) hi, wN_le ht hk (Nat.le_refl _)⟩
def rowC (l : List Col) : List DV := (l.map colC).flatten
theorem rowC_len (l : List Col) : (rowC l).length = l.length * 2 := by
  induction l with
  | nil => rfl
  | cons a l ih => show (colC a ++ rowC l).length = _
                   rw [List.length_append, ih, List.length_cons]; simp [colC]; omega
theorem rowC_all (l : List Col) : (rowC l).all noId1 = true := by
  induction l with
  | nil => rfl
  | cons a l ih => show (colC a ++ rowC l).all noId1 = _
                   rw [List.all_append, ih]; rfl
theorem colRow {l : List Col} : ∀ r ∈ l.map colC, r.length = 2 ∧ r.all isData1 = true := by
  intro r hr
  obtain ⟨x, _, rfl⟩ := List.mem_map.1 hr
  exact ⟨rfl, rfl⟩
theorem look32_C (t : Tb) (ht : Tbl t) (k : Nat) (hk : k < t.head.length) : DPure Tryz.prog 32 [tab t, int1 k] (.agg (colC (colA t k))) := by
  have := look32_D t ht k hk
  rw [colD, wI_eq] at this
  exact this
theorem dash_D (t : Tb) (ht : Tbl t) (k : Nat) (hk : k < t.head.length) : DPure Tryz.prog 33 [strV dashB, int1 (colA t k).w] (strV (rulA t k)) := by
  have := wN_le ht hk (Nat.le_refl _)
  exact rep33_D dashB _ (by show wN t k t.rows.length ≤ _; omega) (by rw [show dashB.size = 1 from rfl]; show 1 * wN t k t.rows.length ≤ _; omega)
theorem take_rowC {t : Tb} {k : Nat} (hk : k < t.head.length) : (rowC ((cols t).take k)).take (k * 2) ++ colC (colA t k) = rowC ((cols t).take (k + 1)) := by
  have hl : ((cols t).take k).length = k := by rw [List.length_take, cols_len]; omega
  rw [List.take_of_length_le (by rw [rowC_len, hl]; exact Nat.le_refl _), take_succ (d := c0) (by rw [cols_len]; exact hk), cols_at hk]
  simp [rowC]
theorem take_rowR {t : Tb} {k : Nat} (hk : k < t.head.length) : (rowS ((rule t).take k)).take (k * 1) ++ [.v (.string (rulA t k))] = rowS ((rule t).take (k + 1)) := by
  have hl : ((rule t).take k).length = k := by rw [List.length_take, rule_len]; omega
  have := rowS_push ((rule t).take k) (rulA t k)
  rw [hl] at this
  rw [this, take_succ (d := emB) (by rw [rule_len]; exact hk), rule_at hk]
set_option maxRecDepth 20000 in
theorem cl_b1 {t : Tb} {k : Nat} (hk : k < t.head.length) : k * Tryz.prog.types[59].size ≤ (rowC ((cols t).take k)).length := by
  show k * 2 ≤ _
  rw [rowC_len, List.length_take, cols_len]; omega
set_option maxRecDepth 20000 in
theorem cl_b2 {i n : Nat} (hi : i < n) (hn : n ≤ 64) : (i + 1) * Tryz.prog.types[59].bytes ≤ 140737488355328 := by
  show (i + 1) * 16 ≤ _
  omega
set_option maxRecDepth 20000 in
theorem cl_b3 {t : Tb} {k : Nat} (hk : k < t.head.length) : k * Tryz.prog.types[9].size ≤ (rowS ((rule t).take k)).length := by
  show k * 1 ≤ _
  rw [rowS_len, List.length_take, rule_len]; omega
theorem rowC_zero (t : Tb) : rowC ((cols t).take 0) = [] := rfl
theorem rowR_zero (t : Tb) : rowS ((rule t).take 0) = [] := rfl
theorem rowC_full (t : Tb) : rowC ((cols t).take t.head.length) = ((cols t).map colC).flatten := by
  rw [List.take_of_length_le (by rw [cols_len]; exact Nat.le_refl _)]; rfl
theorem rowR_full (t : Tb) : rowS ((rule t).take t.head.length) = ((rule t).map strD).flatten := by
  rw [List.take_of_length_le (by rw [rule_len]; exact Nat.le_refl _)]; rfl
theorem rowR_eq (t : Tb) : rowS ((rule t).take t.head.length) = rowS (rule t) := rowR_full t
def d1St (t : Tb) (k : Nat) : St := ⟨0, tmOf [(1, .ref 0 0), (3, .ref 1 0), (4, .arr 3 k), (13, int1 (t.head.map strD).length), (14, int1 k)], .of [(0, ⟨25, 2, tbD t⟩), (1, ⟨57, 1, [.arr 2 k]⟩), (2, ⟨59, 2, rowC ((cols t).take k)⟩), (3, ⟨9, 1, rowS ((rule t).take k)⟩)] 4⟩
def drawI (t : Tb) : Nat → ByteArray
  | 0 => emB ++ dlineB (cols t) t.head ++ dlineB (cols t) (rule t)
  | i + 1 => drawI t i ++ dlineB (cols t) (t.rows.getD i [])
def drawT (t : Tb) : ByteArray := drawI t t.rows.length
def d2St (t : Tb) (i : Nat) : St := ⟨0, tmOf [(7, .ref 4 0), (8, .clo (.func 34) [] [.ref 1 0, .ref 4 0]), (40, rowsD t.rows), (41, int1 (t.rows.map rowD).length), (42, int1 i)], .of [(0, ⟨25, 2, tbD t⟩), (1, ⟨57, 1, [colsL (cols t)]⟩), (4, ⟨65, 2, [.ref 4 0, .arr 5 (drawI t i).size]⟩), (5, ⟨5, 1, bytesD (drawI t i)⟩)] 6⟩
theorem dr_zero (t : Tb) : bytesD (emB ++ dlineB (cols t) t.head ++ dlineB (cols t) (rule t)) = bytesD (drawI t 0) := rfl
theorem dr_zeroN (t : Tb) : (emB ++ dlineB (cols t) t.head ++ dlineB (cols t) (rule t)).size = (drawI t 0).size := rfl
theorem dr_next (t : Tb) (i : Nat) : bytesD (drawI t i ++ dlineB (cols t) (t.rows.getD (i : Int).toNat [])) = bytesD (drawI t (i + 1)) := rfl
theorem dr_nextN (t : Tb) (i : Nat) : (drawI t i ++ dlineB (cols t) (t.rows.getD (i : Int).toNat [])).size = (drawI t (i + 1)).size := rfl
theorem dr_size {t : Tb} (ht : Tbl t) : ∀ {i}, i ≤ t.rows.length → (drawI t i).size ≤ (i + 2) * 65665
  | 0, _ => by
    have h1 := dline_size (lin_head ht)
    have h2 := dline_size (lin_rule ht)
    rw [drawI, emB_app, ByteArray.size_append]; omega
  | i + 1, h => by
    have h1 := dr_size ht (i := i) (by omega)
    have h2 := dline_size (lin_row ht (i := i) (by omega))
    rw [drawI, ByteArray.size_append]; omega
theorem dr_pos (t : Tb) : ∀ i, 0 < (drawI t i).size
  | 0 => by
    rw [drawI, ByteArray.size_append, dlineB, dlineB, ByteArray.size_append (b := nlB)]
    have : nlB.size = 1 := rfl
    omega
  | i + 1 => by rw [drawI, ByteArray.size_append]; have := dr_pos t i; omega
attribute [local irreducible] rowC rowS cols rule colA rulA dlineB bytesD drawI
set_option maxRecDepth 20000 in
set_option maxHeartbeats 1000000 in
theorem draw12_D (t : Tb) (ht : Tbl t) : DPure Tryz.prog 12 [tab t] (strV (drawT t)) := by
  have hl := look32_C t ht
  have hd := dash_D t ht
  refine DFun.data (DFun.body Tryz.func12 rfl (by kernel_rfl) ?_)
  repeat' (first | with_reducible rfl | ((conv => whnf); first | refine And.intro ?_ ?_ | (intro h; first | with_reducible exact tf_no h | with_reducible exact ft_no h | exact Bool.noConfusion h | with_reducible exact h | (have ht : true = true := h; clear ht h) | skip) | ((with_reducible refine ECall.mark ?_); first | refine ECall.only ?_ (fun h => nomatch h) | refine ECall.only ?_ ?_) | ((with_reducible refine Drawn.mark ?_); first | refine Drawn.quiet (by kernel_rfl) ?_) | refine dcell_ok rfl ?_ | refine AppC.new ?_))
  all_goals first | (with_reducible refine enters_mark ?_; kernel_rfl) | (with_reducible refine boolT_mark ?_; kernel_rfl) | rfl | trivial | assumption | exact Nat.le_of_ble_eq_true rfl | (show entersB _ _ = true; kernel_rfl) | exact DW.same _ rfl | exact DW.ref _ _ _ rfl | exact DW.arr _ _ _ rfl | refine DW.int ?_ | refine dvb ?_ | refine dvi ?_ | exact OW.cells rfl rfl (DWl.same rfl) | exact Nat.zero_le _ | omega | skip
  all_goals repeat' (first | refine OW.cells rfl rfl ?_ | exact DW.nilArr _ rfl | refine DWl.cons ?_ ?_ | exact DWl.nil | exact DW.same _ rfl | exact DW.ref _ _ _ rfl | exact DW.arr _ _ _ rfl | exact DW.sub _ _ _ _ rfl | exact DW.mo _ _ rfl | exact DW.nilLst _ | refine DW.aggl ?_ | refine DW.tupl ?_ | refine DW.clol ?_ ?_)
  all_goals try ((conv => whnf); with_reducible first | refine Round.mark ?_ | refine Tells.mark ?_ | refine Retold.mark ?_)
  all_goals try first | (show (_ : Bool) = _; simp_all; done) | (show (_ : Int) < _; simp at *; omega) | (show (_ : Int) ≤ _; simp at *; omega) | (show (_ : Nat) < _; simp at *; omega) | (show (_ : Nat) ≤ _; simp at *; omega)
  conv => whnf
  refine Tri.loop (d1St t) (· ≤ t.head.length) (fun k => t.head.length - k) 0 (by kernel_rfl) (Weak.list [(0, some 0), (1, some 1), (2, none), (3, none)] [] (by kernel_rfl) ?_ ?_) (Nat.zero_le _) ?_
  iterate 2 · repeat' (first | exact rowC_zero _ | exact rowR_zero _ | exact DW.nilArr _ rfl | exact DWl.same rfl | exact DW.same _ rfl | exact DW.ref _ _ _ rfl | exact DW.arr _ _ _ rfl | exact OW.cells rfl rfl (DWl.same rfl) | refine OW.cells rfl rfl ?_ | refine DWl.cons ?_ ?_ | exact DWl.nil | exact DW.nilArr _ rfl | exact DW.nilLst _ | refine DW.clol ?_ ?_ | refine DW.aggl ?_ | refine DW.tupl ?_ | refine DW.int ?_ | refine DW.bool ?_ | refine DW.str ?_ | refine DW.arrE rfl ?_ | ((conv => whnf); first | refine And.intro ?_ ?_ | trivial))
  intro k hk
  have hk : k ≤ t.head.length := hk
  show dcode _ _ _ _ (d1St t k) _
  repeat' (first | with_reducible rfl | ((conv => whnf); first | refine And.intro ?_ ?_ | (intro h; first | with_reducible exact tf_no h | with_reducible exact ft_no h | exact Bool.noConfusion h | with_reducible exact h | (have ht : true = true := h; clear ht h) | skip) | ((with_reducible refine SCall.mark ?_); first | refine SCall.data (hl k ?_) rfl rfl ?_ | refine SCall.scal (hl k ?_) rfl rfl ?_ | refine SCall.data (hd k ?_) rfl rfl ?_ | refine SCall.scal (hd k ?_) rfl rfl ?_) | ((with_reducible refine PCall.mark ?_); first | refine PCall.mk (hl k ?_) rfl rfl ?_ | refine PCall.mk (hd k ?_) rfl rfl ?_) | ((with_reducible refine GCall.mark ?_); first | refine GCall.data (fun _ => hl k ?_) rfl rfl ?_ | refine GCall.scal (fun _ => hl k ?_) rfl rfl ?_ | refine GCall.data (fun _ => hd k ?_) rfl rfl ?_ | refine GCall.scal (fun _ => hd k ?_) rfl rfl ?_) | ((with_reducible refine MCall.mark ?_); first | refine MCall.data (fun _ => hl k ?_) rfl rfl ?_ | refine MCall.plain (PCall.mk (hl k ?_) rfl rfl ?_) | refine MCall.data (fun _ => hd k ?_) rfl rfl ?_ | refine MCall.plain (PCall.mk (hd k ?_) rfl rfl ?_)) | ((with_reducible refine ECall.mark ?_); first | refine ECall.only ?_ (fun h => nomatch h) | refine ECall.only ?_ ?_) | ((with_reducible refine Drawn.mark ?_); first | refine Drawn.quiet (by kernel_rfl) ?_) | refine dcell_ok rfl ?_ | refine AppC.new ?_))
  all_goals try ((conv => whnf); with_reducible refine Round.mark ?_)
  all_goals try first | ((with_reducible show Option.isSome (slElem _ _) = true); kernel_rfl) | ((with_reducible show slElem _ _ = some _); kernel_rfl) | ((with_reducible refine enters_mark ?_); kernel_rfl) | (with_reducible assumption) | ((with_reducible show List.all _ DV.one = true); rfl) | ((with_reducible show (_ : Nat) = _); rfl) | ((with_reducible show (_ == true) = true); simpa using h) | ((with_reducible show (_ : Nat) ≤ _); exact Nat.le_of_ble_eq_true rfl) | ((with_reducible show (_ : Int) ≤ _); first | omega | decide) | ((with_reducible show (_ : Int) < _); first | omega | decide) | ((with_reducible show (_ : Nat) < _); omega) | ((with_reducible show (_ : Nat) ≤ _); omega)
  · have h9 : k < t.head.length := lt_of_test h
    exact h9
  · exact cl_b1 (lt_of_test h)
  · exact cl_b2 (lt_of_test h) ht.head.2
  · exact dl_b3 (lt_of_test h) ht.head.2
  · have h9 : k < t.head.length := lt_of_test h
    exact h9
  · exact cl_b3 (lt_of_test h)
  · exact dl_b2 (lt_of_test h) ht.head.2
  · exact dl_b3 (lt_of_test h) ht.head.2
  · have hlt : k < t.head.length := lt_of_test h
    refine Round.go (· + 1) hlt (by show t.head.length - (k + 1) < t.head.length - k; omega) (Weak.list [(0, some 0), (1, some 1), (2, some 6), (3, some 8)] [] (by kernel_rfl) ?_ ?_)
    iterate 2 · repeat' (first | exact wsucc hlt (by have := ht.head.2; omega) | exact DWl.eq (take_rowC hlt) (rowC_all _) | exact DWl.eq (take_rowR hlt) (rowS_all _) | exact DWl.same rfl | exact DW.same _ rfl | exact DW.ref _ _ _ rfl | exact DW.arr _ _ _ rfl | exact OW.cells rfl rfl (DWl.same rfl) | refine OW.cells rfl rfl ?_ | refine DWl.cons ?_ ?_ | exact DWl.nil | exact DW.nilArr _ rfl | exact DW.nilLst _ | refine DW.clol ?_ ?_ | refine DW.aggl ?_ | refine DW.tupl ?_ | refine DW.int ?_ | refine DW.bool ?_ | refine DW.str ?_ | refine DW.arrE rfl ?_ | ((conv => whnf); first | refine And.intro ?_ ?_ | trivial))
  · have hk : k = t.head.length := by have := ge_of_test h; omega
    subst hk
    repeat' (first | with_reducible rfl | ((conv => whnf); first | refine And.intro ?_ ?_ | (intro h; first | with_reducible exact tf_no h | with_reducible exact ft_no h | exact Bool.noConfusion h | with_reducible exact h | (have ht : true = true := h; clear ht h) | skip) | ((with_reducible refine DWl.mark ?_); repeat' (first | refine DWl.cons ?_ ?_ | exact DWl.nil | exact DW.same _ rfl | exact DW.ref _ _ _ rfl | exact DW.arr _ _ _ rfl | exact DW.sub _ _ _ _ rfl | exact DW.mo _ _ rfl | exact DW.nilLst _ | refine DW.aggl ?_ | refine DW.tupl ?_ | refine DW.clol ?_ ?_ | refine DW.int ?_ | refine DW.bool ?_ | refine DW.str ?_)) | ((with_reducible refine SCall.mark ?_); first | refine SCall.pub [2] [(1, ⟨57, 1, [colsL (cols t)]⟩)] ⟨⟨rfl, rfl, rfl, ?_⟩, trivial⟩ ?_ (SCall.tidy (nx' := 5) [(0, ⟨25, 2, tbD t⟩), (1, ⟨57, 1, [colsL (cols t)]⟩), (3, ⟨9, 1, rowS (rule t)⟩), (4, ⟨65, 2, [.v (.pointer none), .v (.slice none 0 0)]⟩)] rfl ⟨rfl, rfl, ?_, rfl, trivial⟩ (dlF_S (lin_head ht) (rule t) ?_)) | refine SCall.pub [3] [] trivial ?_ (SCall.tidy (nx' := 6) [(0, ⟨25, 2, tbD t⟩), (1, ⟨57, 1, [colsL (cols t)]⟩), (4, ⟨65, 2, [.ref 4 0, .arr 5 (emB ++ dlineB (cols t) t.head).size]⟩), (5, ⟨5, 1, bytesD (emB ++ dlineB (cols t) t.head)⟩)] rfl ⟨rfl, rfl, rfl, rfl, trivial⟩ (dlU_S (lin_rule ht) _ ?_ ?_))) | ((with_reducible refine ECall.mark ?_); first | refine ECall.only ?_ (fun h => nomatch h) | refine ECall.only ?_ ?_) | ((with_reducible refine Drawn.mark ?_); first | refine Drawn.quiet (by kernel_rfl) ?_) | refine dcell_ok rfl ?_ | refine AppC.new ?_))
    · exact DW.pubG rfl (cols_len t) rfl rfl rfl colRow (rowC_full t)
    · exact congrArg some (congrArg (DObj.mk 9 1) (rowR_eq t))
    · rfl
    · exact DW.pubG rfl (rule_len t) rfl rfl rfl strRow (rowS_eq _)
    · have := dline_size (lin_head ht)
      rw [emB_app]; omega
    · rfl
    · conv => whnf
      refine Tri.loop (d2St t) (· ≤ t.rows.length) (fun i => t.rows.length - i) 0 (by kernel_rfl) (Weak.list [(0, some 0), (1, some 1), (4, some 4), (5, some 6)] [] (by kernel_rfl) ?_ ?_) (Nat.zero_le _) ?_
      iterate 2 · repeat' (first | exact DWl.eq (dr_zero t) (bytesD_all _) | exact dr_zeroN t | exact DWl.same rfl | exact DW.same _ rfl | exact DW.ref _ _ _ rfl | exact DW.arr _ _ _ rfl | exact OW.cells rfl rfl (DWl.same rfl) | refine OW.cells rfl rfl ?_ | refine DWl.cons ?_ ?_ | exact DWl.nil | exact DW.nilArr _ rfl | exact DW.nilLst _ | refine DW.clol ?_ ?_ | refine DW.aggl ?_ | refine DW.tupl ?_ | refine DW.int ?_ | refine DW.bool ?_ | refine DW.str ?_ | refine DW.arrE rfl ?_ | ((conv => whnf); first | refine And.intro ?_ ?_ | trivial))
      intro i hi
      have hi : i ≤ t.rows.length := hi
      show dcode _ _ _ _ (d2St t i) _
      repeat' (first | with_reducible rfl | ((conv => whnf); first | refine And.intro ?_ ?_ | (intro h; first | with_reducible exact tf_no h | with_reducible exact ft_no h | exact Bool.noConfusion h | with_reducible exact h | (have ht : true = true := h; clear ht h) | skip) | ((with_reducible refine SCall.mark ?_); first | refine dlU_S (lin_row ht ?_) _ ?_ ?_ | refine str39_S rfl rfl ?_ ?_ ?_) | ((with_reducible refine ECall.mark ?_); first | refine ECall.only ?_ (fun h => nomatch h) | refine ECall.only ?_ ?_) | ((with_reducible refine Drawn.mark ?_); first | refine Drawn.quiet (by kernel_rfl) ?_) | refine dloadE_map (([] : List ByteArray)) ?_ ?_ | refine dcell_ok rfl ?_ | refine AppC.new ?_))
      all_goals try ((conv => whnf); with_reducible refine Round.mark ?_)
      all_goals try first | ((with_reducible show Option.isSome (slElem _ _) = true); kernel_rfl) | ((with_reducible show slElem _ _ = some _); kernel_rfl) | ((with_reducible refine enters_mark ?_); kernel_rfl) | (with_reducible assumption) | ((with_reducible show List.all _ DV.one = true); rfl) | ((with_reducible show (_ : Nat) = _); rfl) | ((with_reducible show (_ == true) = true); simpa using h) | ((with_reducible show (_ : Nat) ≤ _); exact Nat.le_of_ble_eq_true rfl) | ((with_reducible show (_ : Int) ≤ _); first | omega | decide) | ((with_reducible show (_ : Int) < _); first | omega | decide) | ((with_reducible show (_ : Nat) < _); omega) | ((with_reducible show (_ : Nat) ≤ _); omega)
      · exact of_decide_eq_true h
      · exact lt_of_test h
      · exact lt_of_test h
      · have := dr_size ht hi
        have := ht.rows
        omega
      · have hlt : i < t.rows.length := lt_of_test h
        refine Round.go (· + 1) hlt (by show t.rows.length - (i + 1) < t.rows.length - i; omega) (Weak.list [(0, some 0), (1, some 1), (4, some 4), (5, some 6)] [] (by kernel_rfl) ?_ ?_)
        iterate 2 · repeat' (first | exact wsucc hlt (by have := ht.rows; omega) | exact DWl.eq (dr_next t i) (bytesD_all _) | exact dr_nextN t i | exact DWl.same rfl | exact DW.same _ rfl | exact DW.ref _ _ _ rfl | exact DW.arr _ _ _ rfl | exact OW.cells rfl rfl (DWl.same rfl) | refine OW.cells rfl rfl ?_ | refine DWl.cons ?_ ?_ | exact DWl.nil | exact DW.nilArr _ rfl | exact DW.nilLst _ | refine DW.clol ?_ ?_ | refine DW.aggl ?_ | refine DW.tupl ?_ | refine DW.int ?_ | refine DW.bool ?_ | refine DW.str ?_ | refine DW.arrE rfl ?_ | ((conv => whnf); first | refine And.intro ?_ ?_ | trivial))
      · exact dr_pos t _
      · have hi : i = t.rows.length := by have := ge_of_test h; omega
        subst hi
        conv => whnf
        exact Tells.mk (DW.same _ rfl)
end Go.Proofs.YtlchjjchgebfiaaGreatDoor
