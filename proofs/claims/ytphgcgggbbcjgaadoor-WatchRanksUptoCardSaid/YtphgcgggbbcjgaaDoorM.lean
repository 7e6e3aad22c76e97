/- Numbers and alarms written. -/
import Derived.Test.YtphgcgggbbcjgaaDoorL
import Derived.Lib.ItoaLen
namespace Go.Proofs.YtphgcgggbbcjgaaDoor
open Go.RowKit Go.Dl
attribute [local irreducible] Tri SCall DFun QSem PSem PCall GCall MCall Round Weak dloadE OW DWl Tells IntKind.wrap Retold ESem

def bs (l : List UInt8) : ByteArray := ⟨l.toArray⟩
def numB (n : Int) : ByteArray := bs (Lib.itoa n)
theorem numB_size (n : Int) (h0 : -9223372036854775808 ≤ n) (h1 : n ≤ 9223372036854775807) : (numB n).size ≤ 21 := by
  have := Lib.itoa_length_le n h0 h1
  show (Lib.itoa n).toArray.size ≤ 21
  simpa using this
theorem num38_D (n : Int) (h0 : -9223372036854775808 ≤ n) (h1 : n ≤ 9223372036854775807) : DPure Tryd.prog 38 [int1 n] (.v (.string (numB n))) := by
  have hf : DPure Tryd.prog 60 [int1 n, int1 10] (.v (.string (numB n))) := fmt60_D n h0 h1
  refine DFun.data (DFun.body Tryd.func38 rfl (by kernel_rfl) ?_)
  repeat' (first | with_reducible rfl | ((conv => whnf); first | refine And.intro ?_ ?_ | (intro h; first | exact Bool.noConfusion h | with_reducible exact h | (have ht : true = true := h; clear ht h) | skip) | ((with_reducible refine DWl.mark ?_); repeat' (first | refine DWl.cons ?_ ?_ | exact DWl.nil | exact DW.same _ rfl | exact DW.ref _ _ _ rfl | exact DW.arr _ _ _ rfl | exact DW.sub _ _ _ _ rfl | exact DW.nilLst _ | refine DW.aggl ?_ | refine DW.tupl ?_ | refine DW.clol ?_ ?_ | refine DW.int ?_ | refine DW.bool ?_ | refine DW.str ?_)) | ((with_reducible refine SCall.mark ?_); first | refine SCall.data (hf) rfl rfl ?_ | refine SCall.scal (hf) rfl rfl ?_) | ((with_reducible refine PCall.mark ?_); first | refine PCall.mk (hf) rfl rfl ?_) | ((with_reducible refine GCall.mark ?_); first | refine GCall.data (fun _ => hf) rfl rfl ?_ | refine GCall.scal (fun _ => hf) rfl rfl ?_) | ((with_reducible refine MCall.mark ?_); first | refine MCall.data (fun _ => hf) rfl rfl ?_ | refine MCall.plain (PCall.mk (hf) rfl rfl ?_)) | refine dcell_ok rfl ?_ | refine AppC.new ?_))
  all_goals first | (with_reducible refine enters_mark ?_; kernel_rfl) | (with_reducible refine boolT_mark ?_; kernel_rfl) | rfl | trivial | assumption | exact Nat.le_of_ble_eq_true rfl | (show entersB _ _ = true; kernel_rfl) | exact DW.same _ rfl | exact DW.ref _ _ _ rfl | exact DW.arr _ _ _ rfl | refine DW.int ?_ | refine dvb ?_ | refine dvi ?_ | exact OW.cells rfl rfl (DWl.same rfl) | exact Nat.zero_le _ | omega | skip
  all_goals repeat' (first | refine OW.cells rfl rfl ?_ | exact DW.nilArr _ rfl | refine DWl.cons ?_ ?_ | exact DWl.nil | exact DW.same _ rfl | exact DW.ref _ _ _ rfl | exact DW.arr _ _ _ rfl | exact DW.sub _ _ _ _ rfl | exact DW.nilLst _ | refine DW.aggl ?_ | refine DW.tupl ?_ | refine DW.clol ?_ ?_)
  all_goals try ((conv => whnf); with_reducible first | refine Round.mark ?_ | refine Tells.mark ?_ | refine Retold.mark ?_)
  all_goals try first | (show (_ : Bool) = _; simp_all; done) | (show (_ : Int) < _; simp at *; omega) | (show (_ : Int) ≤ _; simp at *; omega) | (show (_ : Nat) < _; simp at *; omega) | (show (_ : Nat) ≤ _; simp at *; omega)
  conv => whnf
  exact Tells.mk (DW.str rfl)
theorem num39_D (n : Int) (h0 : -9223372036854775808 ≤ n) (h1 : n ≤ 9223372036854775807) : DPure Tryd.prog 39 [int1 n] (.v (.string (numB n))) := by
  have hf : DPure Tryd.prog 60 [int1 n, int1 10] (.v (.string (numB n))) := fmt60_D n h0 h1
  refine DFun.data (DFun.body Tryd.func39 rfl (by kernel_rfl) ?_)
  repeat' (first | with_reducible rfl | ((conv => whnf); first | refine And.intro ?_ ?_ | (intro h; first | exact Bool.noConfusion h | with_reducible exact h | (have ht : true = true := h; clear ht h) | skip) | ((with_reducible refine DWl.mark ?_); repeat' (first | refine DWl.cons ?_ ?_ | exact DWl.nil | exact DW.same _ rfl | exact DW.ref _ _ _ rfl | exact DW.arr _ _ _ rfl | exact DW.sub _ _ _ _ rfl | exact DW.nilLst _ | refine DW.aggl ?_ | refine DW.tupl ?_ | refine DW.clol ?_ ?_ | refine DW.int ?_ | refine DW.bool ?_ | refine DW.str ?_)) | ((with_reducible refine SCall.mark ?_); first | refine SCall.data (hf) rfl rfl ?_ | refine SCall.scal (hf) rfl rfl ?_) | ((with_reducible refine PCall.mark ?_); first | refine PCall.mk (hf) rfl rfl ?_) | ((with_reducible refine GCall.mark ?_); first | refine GCall.data (fun _ => hf) rfl rfl ?_ | refine GCall.scal (fun _ => hf) rfl rfl ?_) | ((with_reducible refine MCall.mark ?_); first | refine MCall.data (fun _ => hf) rfl rfl ?_ | refine MCall.plain (PCall.mk (hf) rfl rfl ?_)) | refine dcell_ok rfl ?_ | refine AppC.new ?_))
  all_goals first | (with_reducible refine enters_mark ?_; kernel_rfl) | (with_reducible refine boolT_mark ?_; kernel_rfl) | rfl | trivial | assumption | exact Nat.le_of_ble_eq_true rfl | (show entersB _ _ = true; kernel_rfl) | exact DW.same _ rfl | exact DW.ref _ _ _ rfl | exact DW.arr _ _ _ rfl | refine DW.int ?_ | refine dvb ?_ | refine dvi ?_ | exact OW.cells rfl rfl (DWl.same rfl) | exact Nat.zero_le _ | omega | skip
  all_goals repeat' (first | refine OW.cells rfl rfl ?_ | exact DW.nilArr _ rfl | refine DWl.cons ?_ ?_ | exact DWl.nil | exact DW.same _ rfl | exact DW.ref _ _ _ rfl | exact DW.arr _ _ _ rfl | exact DW.sub _ _ _ _ rfl | exact DW.nilLst _ | refine DW.aggl ?_ | refine DW.tupl ?_ | refine DW.clol ?_ ?_)
  all_goals try ((conv => whnf); with_reducible first | refine Round.mark ?_ | refine Tells.mark ?_ | refine Retold.mark ?_)
  all_goals try first | (show (_ : Bool) = _; simp_all; done) | (show (_ : Int) < _; simp at *; omega) | (show (_ : Int) ≤ _; simp at *; omega) | (show (_ : Nat) < _; simp at *; omega) | (show (_ : Nat) ≤ _; simp at *; omega)
  conv => whnf
  exact Tells.mk (DW.str rfl)
attribute [local irreducible] numB
def wAbove : ByteArray := ⟨#[97, 98, 111, 118, 101, 32]⟩
def wBelow : ByteArray := ⟨#[98, 101, 108, 111, 119, 32]⟩
def wClear : ByteArray := ⟨#[32, 99, 108, 101, 97, 114, 32]⟩
def wOutside : ByteArray := ⟨#[111, 117, 116, 115, 105, 100, 101, 32]⟩
def wHold : ByteArray := ⟨#[32, 104, 111, 108, 100, 32]⟩
def wChange : ByteArray := ⟨#[99, 104, 97, 110, 103, 101, 32]⟩
def text1 (l u o : Int) : ByteArray := wAbove ++ numB u ++ wClear ++ numB l ++ (wHold ++ numB o)
def text2 (l u o : Int) : ByteArray := wBelow ++ numB l ++ wClear ++ numB u ++ (wHold ++ numB o)
def text3 (l u o : Int) : ByteArray := wOutside ++ numB l ++ spaceB ++ numB u ++ (wHold ++ numB o)
def text4 (l u o : Int) : ByteArray := wChange ++ numB u ++ wClear ++ numB l ++ (wHold ++ numB o)
def textT (a : Al) : ByteArray :=
  if fitA a = true then (if (a.kind == 1) = true then text1 a.low a.high a.hold else if (a.kind == 2) = true then text2 a.low a.high a.hold else if (a.kind == 3) = true then text3 a.low a.high a.hold else text4 a.low a.high a.hold) else ByteArray.empty
theorem text_no {a : Al} (h : (!fitA a) = true) : textT a = ByteArray.empty := by rw [textT, if_neg (by rw [nb h]; decide)]
theorem text_1 {a : Al} (h : (!fitA a) = false) (h1 : (a.kind == 1) = true) : textT a = text1 a.low a.high a.hold := by rw [textT, if_pos (pb h), if_pos h1]
theorem text_2 {a : Al} (h : (!fitA a) = false) (h1 : (a.kind == 1) = false) (h2 : (a.kind == 2) = true) : textT a = text2 a.low a.high a.hold := by rw [textT, if_pos (pb h), if_neg (by rw [h1]; decide), if_pos h2]
theorem text_3 {a : Al} (h : (!fitA a) = false) (h1 : (a.kind == 1) = false) (h2 : (a.kind == 2) = false) (h3 : (a.kind == 3) = true) : textT a = text3 a.low a.high a.hold := by rw [textT, if_pos (pb h), if_neg (by rw [h1]; decide), if_neg (by rw [h2]; decide), if_pos h3]
theorem text_4 {a : Al} (h : (!fitA a) = false) (h1 : (a.kind == 1) = false) (h2 : (a.kind == 2) = false) (h3 : (a.kind == 3) = false) : textT a = text4 a.low a.high a.hold := by rw [textT, if_pos (pb h), if_neg (by rw [h1]; decide), if_neg (by rw [h2]; decide), if_neg (by rw [h3]; decide)]
theorem fit_low {a : Al} (h : (!fitA a) = false) : -9223372036854775808 ≤ a.low ∧ a.low ≤ 9223372036854775807 := by have := fit_iff.1 (pb h); omega
theorem fit_high {a : Al} (h : (!fitA a) = false) : -9223372036854775808 ≤ a.high ∧ a.high ≤ 9223372036854775807 := by have := fit_iff.1 (pb h); omega
theorem fit_hold {a : Al} (h : (!fitA a) = false) : -9223372036854775808 ≤ a.hold ∧ a.hold ≤ 9223372036854775807 := by have := fit_iff.1 (pb h); omega
def Small (a : Al) : Prop := (numB a.low).size ≤ 21 ∧ (numB a.high).size ≤ 21 ∧ (numB a.hold).size ≤ 21
theorem fit_small {a : Al} (h : (!fitA a) = false) : Small a := ⟨numB_size _ (fit_low h).1 (fit_low h).2, numB_size _ (fit_high h).1 (fit_high h).2, numB_size _ (fit_hold h).1 (fit_hold h).2⟩
theorem sz2 {x y : ByteArray} {m n : Nat} (h1 : x.size ≤ m) (h2 : y.size ≤ n) : (x ++ y).size ≤ m + n := by rw [ByteArray.size_append]; omega
theorem szle {x y : ByteArray} {m n : Nat} (h1 : x.size ≤ m) (h2 : y.size ≤ n) (h : m + n ≤ 9223372036854775807) : x.size + y.size ≤ 9223372036854775807 := by omega
set_option maxRecDepth 20000 in
theorem text21_D (a : Al) : DPure Tryd.prog 21 [.agg (alD a)] (.v (.string (textT a))) := by
  refine DFun.data (DFun.body Tryd.func21 rfl (by kernel_rfl) ?_)
  repeat' (first | with_reducible rfl | ((conv => whnf); first | refine And.intro ?_ ?_ | (intro h; first | exact Bool.noConfusion h | with_reducible exact h | (have ht : true = true := h; clear ht h) | skip) | ((with_reducible refine DWl.mark ?_); repeat' (first | refine DWl.cons ?_ ?_ | exact DWl.nil | exact DW.same _ rfl | exact DW.ref _ _ _ rfl | exact DW.arr _ _ _ rfl | exact DW.sub _ _ _ _ rfl | exact DW.nilLst _ | refine DW.aggl ?_ | refine DW.tupl ?_ | refine DW.clol ?_ ?_ | refine DW.int ?_ | refine DW.bool ?_ | refine DW.str ?_)) | ((with_reducible refine SCall.mark ?_); first | refine SCall.data (fit26_D a) rfl rfl ?_ | refine SCall.scal (fit26_D a) rfl rfl ?_ | refine SCall.data (num38_D _ ?_ ?_) rfl rfl ?_ | refine SCall.scal (num38_D _ ?_ ?_) rfl rfl ?_) | ((with_reducible refine PCall.mark ?_); first | refine PCall.mk (fit26_D a) rfl rfl ?_ | refine PCall.mk (num38_D _ ?_ ?_) rfl rfl ?_) | ((with_reducible refine GCall.mark ?_); first | refine GCall.data (fun _ => fit26_D a) rfl rfl ?_ | refine GCall.scal (fun _ => fit26_D a) rfl rfl ?_ | refine GCall.data (fun _ => num38_D _ ?_ ?_) rfl rfl ?_ | refine GCall.scal (fun _ => num38_D _ ?_ ?_) rfl rfl ?_) | ((with_reducible refine MCall.mark ?_); first | refine MCall.data (fun _ => fit26_D a) rfl rfl ?_ | refine MCall.plain (PCall.mk (fit26_D a) rfl rfl ?_) | refine MCall.data (fun _ => num38_D _ ?_ ?_) rfl rfl ?_ | refine MCall.plain (PCall.mk (num38_D _ ?_ ?_) rfl rfl ?_)) | refine dcell_ok rfl ?_ | refine AppC.new ?_))
  all_goals first | (with_reducible refine enters_mark ?_; kernel_rfl) | (with_reducible refine boolT_mark ?_; kernel_rfl) | rfl | trivial | assumption | exact Nat.le_of_ble_eq_true rfl | (show entersB _ _ = true; kernel_rfl) | exact DW.same _ rfl | exact DW.ref _ _ _ rfl | exact DW.arr _ _ _ rfl | refine DW.int ?_ | refine dvb ?_ | refine dvi ?_ | exact OW.cells rfl rfl (DWl.same rfl) | exact Nat.zero_le _ | omega | skip
  all_goals repeat' (first | refine OW.cells rfl rfl ?_ | exact DW.nilArr _ rfl | refine DWl.cons ?_ ?_ | exact DWl.nil | exact DW.same _ rfl | exact DW.ref _ _ _ rfl | exact DW.arr _ _ _ rfl | exact DW.sub _ _ _ _ rfl | exact DW.nilLst _ | refine DW.aggl ?_ | refine DW.tupl ?_ | refine DW.clol ?_ ?_)
  all_goals try ((conv => whnf); with_reducible first | refine Round.mark ?_ | refine Tells.mark ?_ | refine Retold.mark ?_)
  all_goals try first | (show (_ : Bool) = _; simp_all; done) | (show (_ : Int) < _; simp at *; omega) | (show (_ : Int) ≤ _; simp at *; omega) | (show (_ : Nat) < _; simp at *; omega) | (show (_ : Nat) ≤ _; simp at *; omega)
  · exact Tells.mk (DW.str (text_no h).symm)
  · exact (fit_low h).1
  · exact (fit_low h).2
  · exact (fit_high h).1
  · exact (fit_high h).2
  · exact (fit_hold h).1
  · exact (fit_hold h).2
  · exact szle (m := 6) (n := 21) (by decide) (fit_small h).2.2 (by decide)
  · exact szle (m := 6) (n := 21) (by decide) (fit_small ‹(!fitA a) = false›).2.1 (by decide)
  · exact szle (m := 6 + 21) (n := 7) (sz2 (by decide) (fit_small ‹(!fitA a) = false›).2.1) (by decide) (by decide)
  · exact szle (m := 6 + 21 + 7) (n := 21) (sz2 (sz2 (by decide) (fit_small ‹(!fitA a) = false›).2.1) (by decide)) (fit_small ‹(!fitA a) = false›).1 (by decide)
  · exact szle (m := 6 + 21 + 7 + 21) (n := 6 + 21) (sz2 (sz2 (sz2 (by decide) (fit_small ‹(!fitA a) = false›).2.1) (by decide)) (fit_small ‹(!fitA a) = false›).1) (sz2 (by decide) (fit_small ‹(!fitA a) = false›).2.2) (by decide)
  · exact Tells.mk (DW.str (text_1 ‹(!fitA a) = false› h).symm)
  · exact szle (m := 6) (n := 21) (by decide) (fit_small ‹(!fitA a) = false›).1 (by decide)
  · exact szle (m := 6 + 21) (n := 7) (sz2 (by decide) (fit_small ‹(!fitA a) = false›).1) (by decide) (by decide)
  · exact szle (m := 6 + 21 + 7) (n := 21) (sz2 (sz2 (by decide) (fit_small ‹(!fitA a) = false›).1) (by decide)) (fit_small ‹(!fitA a) = false›).2.1 (by decide)
  · exact szle (m := 6 + 21 + 7 + 21) (n := 6 + 21) (sz2 (sz2 (sz2 (by decide) (fit_small ‹(!fitA a) = false›).1) (by decide)) (fit_small ‹(!fitA a) = false›).2.1) (sz2 (by decide) (fit_small ‹(!fitA a) = false›).2.2) (by decide)
  · exact Tells.mk (DW.str (text_2 ‹(!fitA a) = false› ‹(a.kind == 1) = false› h).symm)
  · exact szle (m := 8) (n := 21) (by decide) (fit_small ‹(!fitA a) = false›).1 (by decide)
  · exact szle (m := 8 + 21) (n := 1) (sz2 (by decide) (fit_small ‹(!fitA a) = false›).1) (by decide) (by decide)
  · exact szle (m := 8 + 21 + 1) (n := 21) (sz2 (sz2 (by decide) (fit_small ‹(!fitA a) = false›).1) (by decide)) (fit_small ‹(!fitA a) = false›).2.1 (by decide)
  · exact szle (m := 8 + 21 + 1 + 21) (n := 6 + 21) (sz2 (sz2 (sz2 (by decide) (fit_small ‹(!fitA a) = false›).1) (by decide)) (fit_small ‹(!fitA a) = false›).2.1) (sz2 (by decide) (fit_small ‹(!fitA a) = false›).2.2) (by decide)
  · exact Tells.mk (DW.str (text_3 ‹(!fitA a) = false› ‹(a.kind == 1) = false› ‹(a.kind == 2) = false› h).symm)
  · exact szle (m := 7) (n := 21) (by decide) (fit_small ‹(!fitA a) = false›).2.1 (by decide)
  · exact szle (m := 7 + 21) (n := 7) (sz2 (by decide) (fit_small ‹(!fitA a) = false›).2.1) (by decide) (by decide)
  · exact szle (m := 7 + 21 + 7) (n := 21) (sz2 (sz2 (by decide) (fit_small ‹(!fitA a) = false›).2.1) (by decide)) (fit_small ‹(!fitA a) = false›).1 (by decide)
  · exact szle (m := 7 + 21 + 7 + 21) (n := 6 + 21) (sz2 (sz2 (sz2 (by decide) (fit_small ‹(!fitA a) = false›).2.1) (by decide)) (fit_small ‹(!fitA a) = false›).1) (sz2 (by decide) (fit_small ‹(!fitA a) = false›).2.2) (by decide)
  · exact Tells.mk (DW.str (text_4 ‹(!fitA a) = false› ‹(a.kind == 1) = false› ‹(a.kind == 2) = false› h).symm)
set_option maxRecDepth 20000 in
theorem text22_D (a : Al) : DPure Tryd.prog 22 [.agg (alD a)] (.v (.string (textT a))) := by
  refine DFun.data (DFun.body Tryd.func22 rfl (by kernel_rfl) ?_)
  repeat' (first | with_reducible rfl | ((conv => whnf); first | refine And.intro ?_ ?_ | (intro h; first | exact Bool.noConfusion h | with_reducible exact h | (have ht : true = true := h; clear ht h) | skip) | ((with_reducible refine DWl.mark ?_); repeat' (first | refine DWl.cons ?_ ?_ | exact DWl.nil | exact DW.same _ rfl | exact DW.ref _ _ _ rfl | exact DW.arr _ _ _ rfl | exact DW.sub _ _ _ _ rfl | exact DW.nilLst _ | refine DW.aggl ?_ | refine DW.tupl ?_ | refine DW.clol ?_ ?_ | refine DW.int ?_ | refine DW.bool ?_ | refine DW.str ?_)) | ((with_reducible refine SCall.mark ?_); first | refine SCall.data (fit15_D a) rfl rfl ?_ | refine SCall.scal (fit15_D a) rfl rfl ?_ | refine SCall.data (num39_D _ ?_ ?_) rfl rfl ?_ | refine SCall.scal (num39_D _ ?_ ?_) rfl rfl ?_) | ((with_reducible refine PCall.mark ?_); first | refine PCall.mk (fit15_D a) rfl rfl ?_ | refine PCall.mk (num39_D _ ?_ ?_) rfl rfl ?_) | ((with_reducible refine GCall.mark ?_); first | refine GCall.data (fun _ => fit15_D a) rfl rfl ?_ | refine GCall.scal (fun _ => fit15_D a) rfl rfl ?_ | refine GCall.data (fun _ => num39_D _ ?_ ?_) rfl rfl ?_ | refine GCall.scal (fun _ => num39_D _ ?_ ?_) rfl rfl ?_) | ((with_reducible refine MCall.mark ?_); first | refine MCall.data (fun _ => fit15_D a) rfl rfl ?_ | refine MCall.plain (PCall.mk (fit15_D a) rfl rfl ?_) | refine MCall.data (fun _ => num39_D _ ?_ ?_) rfl rfl ?_ | refine MCall.plain (PCall.mk (num39_D _ ?_ ?_) rfl rfl ?_)) | refine dcell_ok rfl ?_ | refine AppC.new ?_))
  all_goals first | (with_reducible refine enters_mark ?_; kernel_rfl) | (with_reducible refine boolT_mark ?_; kernel_rfl) | rfl | trivial | assumption | exact Nat.le_of_ble_eq_true rfl | (show entersB _ _ = true; kernel_rfl) | exact DW.same _ rfl | exact DW.ref _ _ _ rfl | exact DW.arr _ _ _ rfl | refine DW.int ?_ | refine dvb ?_ | refine dvi ?_ | exact OW.cells rfl rfl (DWl.same rfl) | exact Nat.zero_le _ | omega | skip
  all_goals repeat' (first | refine OW.cells rfl rfl ?_ | exact DW.nilArr _ rfl | refine DWl.cons ?_ ?_ | exact DWl.nil | exact DW.same _ rfl | exact DW.ref _ _ _ rfl | exact DW.arr _ _ _ rfl | exact DW.sub _ _ _ _ rfl | exact DW.nilLst _ | refine DW.aggl ?_ | refine DW.tupl ?_ | refine DW.clol ?_ ?_)
  all_goals try ((conv => whnf); with_reducible first | refine Round.mark ?_ | refine Tells.mark ?_ | refine Retold.mark ?_)
  all_goals try first | (show (_ : Bool) = _; simp_all; done) | (show (_ : Int) < _; simp at *; omega) | (show (_ : Int) ≤ _; simp at *; omega) | (show (_ : Nat) < _; simp at *; omega) | (show (_ : Nat) ≤ _; simp at *; omega)
  · exact Tells.mk (DW.str (text_no h).symm)
  · exact (fit_hold h).1
  · exact (fit_hold h).2
  · exact szle (m := 6) (n := 21) (by decide) (fit_small h).2.2 (by decide)
  · exact (fit_high ‹(!fitA a) = false›).1
  · exact (fit_high ‹(!fitA a) = false›).2
  · exact szle (m := 6) (n := 21) (by decide) (fit_small ‹(!fitA a) = false›).2.1 (by decide)
  · exact szle (m := 6 + 21) (n := 7) (sz2 (by decide) (fit_small ‹(!fitA a) = false›).2.1) (by decide) (by decide)
  · exact (fit_low ‹(!fitA a) = false›).1
  · exact (fit_low ‹(!fitA a) = false›).2
  · exact szle (m := 6 + 21 + 7) (n := 21) (sz2 (sz2 (by decide) (fit_small ‹(!fitA a) = false›).2.1) (by decide)) (fit_small ‹(!fitA a) = false›).1 (by decide)
  · exact szle (m := 6 + 21 + 7 + 21) (n := 6 + 21) (sz2 (sz2 (sz2 (by decide) (fit_small ‹(!fitA a) = false›).2.1) (by decide)) (fit_small ‹(!fitA a) = false›).1) (sz2 (by decide) (fit_small ‹(!fitA a) = false›).2.2) (by decide)
  · exact Tells.mk (DW.str (text_1 ‹(!fitA a) = false› h).symm)
  · exact (fit_low ‹(!fitA a) = false›).1
  · exact (fit_low ‹(!fitA a) = false›).2
  · exact szle (m := 6) (n := 21) (by decide) (fit_small ‹(!fitA a) = false›).1 (by decide)
  · exact szle (m := 6 + 21) (n := 7) (sz2 (by decide) (fit_small ‹(!fitA a) = false›).1) (by decide) (by decide)
  · exact (fit_high ‹(!fitA a) = false›).1
  · exact (fit_high ‹(!fitA a) = false›).2
  · exact szle (m := 6 + 21 + 7) (n := 21) (sz2 (sz2 (by decide) (fit_small ‹(!fitA a) = false›).1) (by decide)) (fit_small ‹(!fitA a) = false›).2.1 (by decide)
  · exact szle (m := 6 + 21 + 7 + 21) (n := 6 + 21) (sz2 (sz2 (sz2 (by decide) (fit_small ‹(!fitA a) = false›).1) (by decide)) (fit_small ‹(!fitA a) = false›).2.1) (sz2 (by decide) (fit_small ‹(!fitA a) = false›).2.2) (by decide)
  · exact Tells.mk (DW.str (text_2 ‹(!fitA a) = false› ‹(a.kind == 1) = false› h).symm)
  · exact (fit_low ‹(!fitA a) = false›).1
  · exact (fit_low ‹(!fitA a) = false›).2
  · exact szle (m := 8) (n := 21) (by decide) (fit_small ‹(!fitA a) = false›).1 (by decide)
  · exact szle (m := 8 + 21) (n := 1) (sz2 (by decide) (fit_small ‹(!fitA a) = false›).1) (by decide) (by decide)
  · exact (fit_high ‹(!fitA a) = false›).1
  · exact (fit_high ‹(!fitA a) = false›).2
  · exact szle (m := 8 + 21 + 1) (n := 21) (sz2 (sz2 (by decide) (fit_small ‹(!fitA a) = false›).1) (by decide)) (fit_small ‹(!fitA a) = false›).2.1 (by decide)
  · exact szle (m := 8 + 21 + 1 + 21) (n := 6 + 21) (sz2 (sz2 (sz2 (by decide) (fit_small ‹(!fitA a) = false›).1) (by decide)) (fit_small ‹(!fitA a) = false›).2.1) (sz2 (by decide) (fit_small ‹(!fitA a) = false›).2.2) (by decide)
  · exact Tells.mk (DW.str (text_3 ‹(!fitA a) = false› ‹(a.kind == 1) = false› ‹(a.kind == 2) = false› h).symm)
  · exact (fit_high ‹(!fitA a) = false›).1
  · exact (fit_high ‹(!fitA a) = false›).2
  · exact szle (m := 7) (n := 21) (by decide) (fit_small ‹(!fitA a) = false›).2.1 (by decide)
  · exact szle (m := 7 + 21) (n := 7) (sz2 (by decide) (fit_small ‹(!fitA a) = false›).2.1) (by decide) (by decide)
  · exact (fit_low ‹(!fitA a) = false›).1
  · exact (fit_low ‹(!fitA a) = false›).2
  · exact szle (m := 7 + 21 + 7) (n := 21) (sz2 (sz2 (by decide) (fit_small ‹(!fitA a) = false›).2.1) (by decide)) (fit_small ‹(!fitA a) = false›).1 (by decide)
  · exact szle (m := 7 + 21 + 7 + 21) (n := 6 + 21) (sz2 (sz2 (sz2 (by decide) (fit_small ‹(!fitA a) = false›).2.1) (by decide)) (fit_small ‹(!fitA a) = false›).1) (sz2 (by decide) (fit_small ‹(!fitA a) = false›).2.2) (by decide)
  · exact Tells.mk (DW.str (text_4 ‹(!fitA a) = false› ‹(a.kind == 1) = false› ‹(a.kind == 2) = false› h).symm)
end Go.Proofs.YtphgcgggbbcjgaaDoor
