/- The document's Number. -/
import Derived.Test.YtgaghkchdiepoaaDoorPkD
import Derived.Lib.SplitLaws
import Derived.Lib.ItoaMem
import Derived.Lib.ParseIntBTie
import Derived.Test.YtgaghkchdiepoaaDoorPkE

namespace Go.Proofs.YtgaghkchdiepoaaDoor
open Go.RowKit Go.Dl
attribute [local irreducible] Tri SCall DFun QSem PSem PCall GCall MCall Round Weak dloadE OW DWl Tells IntKind.wrap Retold ESem

def badD (n d : Int) : Bool := bif bif bif decide (d < 0) then true else decide (9 < d) then true else decide (n < -922337203685477580) then true else bif n == -922337203685477580 then decide (8 < d) else false
def numLoop (n : Int) : List UInt8 → Option Int
  | [] => some n
  | c :: r => if badD n ((c.toNat : Int) - 48) = true then none else numLoop (10 * n - ((c.toNat : Int) - 48)) r
def numAt (b : List UInt8) : Nat := if 0 < b.length ∧ (b.getD 0 0).toNat = 45 then 1 else 0
def numO (b : List UInt8) : Option Int :=
  if b.length = numAt b ∨ ((b.getD (numAt b) 0).toNat = 48 ∧ 1 < b.length) then none
  else match numLoop 0 (b.drop (numAt b)) with
    | none => none
    | some n => if numAt b = 1 then some n else if n = -9223372036854775808 then none else some (-n)
def numR : Option Int → Int × Bool
  | none => (0, false)
  | some v => (v, true)
def numSt (s : ByteArray) (at' : Nat) (i : Nat × Int) : St := ⟨0, tmOf [(0, .v (.string s)), (4, int1 at'), (5, int1 i.2), (6, int1 i.1)], .of [] 0⟩
def NumI (s : ByteArray) (at' : Nat) (i : Nat × Int) : Prop := i.1 ≤ s.data.toList.length ∧ -9223372036854775808 ≤ i.2 ∧ i.2 ≤ 0 ∧ numLoop 0 (s.data.toList.drop at') = numLoop i.2 (s.data.toList.drop i.1)
theorem sz_data (s : ByteArray) : s.size = s.data.toList.length := Array.length_toList.symm
theorem byte_at (s : ByteArray) (n : Nat) : byteAt s n = ((s.data.toList.getD n 0).toNat : Int) := rfl
theorem byte_lt (s : ByteArray) (n : Nat) : 0 ≤ byteAt s n ∧ byteAt s n ≤ 255 := by
  have := (s.data.toList.getD n 0).toNat_lt
  rw [byte_at]; omega
theorem byte_wrap (s : ByteArray) (n : Nat) : IntKind.i64.wrap (IntKind.i64.wrap (byteAt s n) - 48) = byteAt s n - 48 := by
  have := byte_lt s n
  rw [wrapI (x := byteAt s n) (by omega) (by omega), wrapI (by omega) (by omega)]
theorem at_one {s : ByteArray} (h : (bif decide ((0 : Int) < (s.size : Int)) then byteAt s (Int.toNat 0) == 45 else false) = true) : numAt s.data.toList = 1 := by
  have e : Int.toNat 0 = 0 := rfl
  rw [e, byte_at, sz_data] at h
  unfold numAt
  simp only [Bool.cond_false_right, Bool.and_eq_true, decide_eq_true_eq, beq_iff_eq] at h
  rw [if_pos (by omega)]
theorem at_zero {s : ByteArray} (h : (bif decide ((0 : Int) < (s.size : Int)) then byteAt s (Int.toNat 0) == 45 else false) = false) : numAt s.data.toList = 0 := by
  have e : Int.toNat 0 = 0 := rfl
  rw [e, byte_at, sz_data] at h
  unfold numAt
  refine if_neg fun hc => ?_
  simp only [Bool.cond_false_right, Bool.and_eq_false_imp, decide_eq_true_eq, beq_eq_false_iff_ne] at h
  omega
theorem no_form {s : ByteArray} {a : Nat} (ha : numAt s.data.toList = a) (h : (bif (s.size : Int) == (a : Int) then true else bif byteAt s a == 48 then decide ((1 : Int) < (s.size : Int)) else false) = true) : numO s.data.toList = none := by
  rw [byte_at, sz_data] at h
  unfold numO
  rw [ha]
  refine if_pos ?_
  simp only [Bool.cond_true_left, Bool.cond_false_right, Bool.or_eq_true, Bool.and_eq_true, decide_eq_true_eq, beq_iff_eq] at h
  omega
theorem form {s : ByteArray} {a : Nat} (ha : numAt s.data.toList = a) (h : (bif (s.size : Int) == (a : Int) then true else bif byteAt s a == 48 then decide ((1 : Int) < (s.size : Int)) else false) = false) :
    a < s.data.toList.length ∧ numO s.data.toList = match numLoop 0 (s.data.toList.drop a) with
    | none => none
    | some n => if a = 1 then some n else if n = -9223372036854775808 then none else some (-n) := by
  rw [byte_at, sz_data] at h
  simp only [Bool.cond_true_left, Bool.cond_false_right, Bool.or_eq_false_iff, Bool.and_eq_false_imp, decide_eq_true_eq, decide_eq_false_iff_not, beq_eq_false_iff_ne, beq_iff_eq] at h
  have hle : a ≤ s.data.toList.length := by
    rw [← ha]; unfold numAt; split <;> omega
  refine ⟨by omega, ?_⟩
  unfold numO
  rw [ha]
  exact if_neg (by omega)
theorem loop_bad {s : ByteArray} {a : Nat} {i : Nat × Int} (hi : NumI s a i) (hlt : i.1 < s.data.toList.length) (h : badD i.2 (byteAt s i.1 - 48) = true) : numLoop 0 (s.data.toList.drop a) = none := by
  rw [hi.2.2.2, drop_at (d := 0) hlt, numLoop]; exact if_pos h
theorem loop_step {s : ByteArray} {a : Nat} {i : Nat × Int} (hi : NumI s a i) (hlt : i.1 < s.data.toList.length) (h : badD i.2 (byteAt s i.1 - 48) = false) :
    IntKind.i64.wrap (IntKind.i64.wrap (10 * i.2) - (byteAt s i.1 - 48)) = 10 * i.2 - (byteAt s i.1 - 48) ∧ NumI s a (i.1 + 1, 10 * i.2 - (byteAt s i.1 - 48)) := by
  have hb := byte_lt s i.1
  have h' := h
  unfold badD at h
  simp only [Bool.cond_true_left, Bool.cond_false_right, Bool.or_eq_false_iff, Bool.and_eq_false_imp, decide_eq_false_iff_not, beq_iff_eq] at h
  obtain ⟨h1, h2, h3, h4⟩ := hi
  have e1 : -9223372036854775808 ≤ 10 * i.2 - (byteAt s i.1 - 48) ∧ 10 * i.2 - (byteAt s i.1 - 48) ≤ 0 := by
    by_cases e : i.2 = -922337203685477580
    · have := h.2 e
      omega
    · omega
  refine ⟨by rw [wrapI (x := 10 * i.2) (by omega) (by omega), wrapI (by omega) (by omega)], ?_⟩
  refine ⟨hlt, e1.1, e1.2, ?_⟩
  rw [h4, drop_at (d := 0) hlt, numLoop, if_neg (by rw [show ((s.data.toList.getD i.1 0).toNat : Int) = byteAt s i.1 from rfl, h']; decide)]
  rfl
theorem loop_end {s : ByteArray} {a : Nat} {i : Nat × Int} (hi : NumI s a i) (hge : s.data.toList.length ≤ i.1) : numLoop 0 (s.data.toList.drop a) = some i.2 := by
  rw [hi.2.2.2, List.drop_of_length_le hge, numLoop]
attribute [local irreducible] numO numLoop byteAt
set_option maxRecDepth 20000 in
theorem number56_D (s : ByteArray) (hmax : s.size ≤ 4294967281) : DPure Tryd.prog 56 [strV s] (.tup [int1 (numR (numO s.data.toList)).1, bl (numR (numO s.data.toList)).2]) := by
  refine DFun.data (DFun.body Tryd.func56 rfl (by kernel_rfl) ?_)
  repeat' (first | with_reducible rfl | ((conv => whnf); first | refine And.intro ?_ ?_ | (intro h; first | with_reducible exact tf_no h | with_reducible exact ft_no h | exact Bool.noConfusion h | with_reducible exact h | (have ht : true = true := h; clear ht h) | skip) | ((with_reducible refine DWl.mark ?_); repeat' (first | refine DWl.cons ?_ ?_ | exact DWl.nil | exact DW.same _ rfl | exact DW.ref _ _ _ rfl | exact DW.arr _ _ _ rfl | exact DW.sub _ _ _ _ rfl | exact DW.nilLst _ | refine DW.aggl ?_ | refine DW.tupl ?_ | refine DW.clol ?_ ?_ | refine DW.int ?_ | refine DW.bool ?_ | refine DW.str ?_)) | ((with_reducible refine Tri.mark ?_); first | (refine Tri.at (4) (int1 0) (by rfl) ?_; refine Tri.loop (numSt s 0) (NumI s 0) (fun i => s.size - i.1) (0, 0) (by kernel_rfl) (Weak.list [] [] (by kernel_rfl) ?_ ?_) ?_ ?_) | (refine Tri.at (4) (int1 1) (by rfl) ?_; refine Tri.loop (numSt s 1) (NumI s 1) (fun i => s.size - i.1) (1, 0) (by kernel_rfl) (Weak.list [] [] (by kernel_rfl) ?_ ?_) ?_ ?_)) | ((with_reducible refine ECall.mark ?_); first | refine ECall.only ?_ (fun h => nomatch h) | refine ECall.only ?_ ?_) | ((with_reducible refine Drawn.mark ?_); first | refine Drawn.quiet (by kernel_rfl) ?_) | refine dcell_ok rfl ?_ | refine AppC.new ?_))
  all_goals first | (with_reducible refine enters_mark ?_; kernel_rfl) | (with_reducible refine boolT_mark ?_; kernel_rfl) | rfl | trivial | assumption | exact Nat.le_of_ble_eq_true rfl | (show entersB _ _ = true; kernel_rfl) | exact DW.same _ rfl | exact DW.ref _ _ _ rfl | exact DW.arr _ _ _ rfl | refine DW.int ?_ | refine dvb ?_ | refine dvi ?_ | exact OW.cells rfl rfl (DWl.same rfl) | exact Nat.zero_le _ | omega | skip
  all_goals repeat' (first | refine OW.cells rfl rfl ?_ | exact DW.nilArr _ rfl | refine DWl.cons ?_ ?_ | exact DWl.nil | exact DW.same _ rfl | exact DW.ref _ _ _ rfl | exact DW.arr _ _ _ rfl | exact DW.sub _ _ _ _ rfl | exact DW.nilLst _ | refine DW.aggl ?_ | refine DW.tupl ?_ | refine DW.clol ?_ ?_)
  all_goals try ((conv => whnf); with_reducible first | refine Round.mark ?_ | refine Tells.mark ?_ | refine Retold.mark ?_)
  all_goals try first | (show (_ : Bool) = _; simp_all; done) | (show (_ : Int) < _; simp at *; omega) | (show (_ : Int) ≤ _; simp at *; omega) | (show (_ : Nat) < _; simp at *; omega) | (show (_ : Nat) ≤ _; simp at *; omega)
  · have ha := at_one ‹(bif decide ((0 : Int) < (s.size : Int)) then byteAt s (Int.toNat 0) == 45 else false) = true›
    conv => whnf
    exact Tells.of (r1 := .tup [int1 0, bl false]) (by rw [no_form ha h]; rfl) (Tells.mk (DW.tupl (DWl.cons (DW.int rfl) (DWl.cons (DW.bool rfl) DWl.nil))))
  · rename_i i hi e1
    have ha := at_one ‹(bif decide ((0 : Int) < (s.size : Int)) then byteAt s (Int.toNat 0) == 45 else false) = true›
    have hf := form ha ‹(bif (s.size : Int) == ((1 : Nat) : Int) then true else bif byteAt s (Int.toNat 1) == 48 then decide ((1 : Int) < (s.size : Int)) else false) = false›
    have hlt : i.1 < s.data.toList.length := by have := of_decide_eq_true e1; rw [sz_data] at this; omega
    rw [byte_wrap, Int.toNat_natCast] at h
    have e4 : numO s.data.toList = none := by rw [hf.2, loop_bad hi hlt h]
    conv => whnf
    exact Tells.of (r1 := .tup [int1 0, bl false]) (by rw [e4]; rfl) (Tells.mk (DW.tupl (DWl.cons (DW.int rfl) (DWl.cons (DW.bool rfl) DWl.nil))))
  · rename_i i hi e1
    have hlt : i.1 < s.data.toList.length := by have := of_decide_eq_true e1; rw [sz_data] at this; omega
    have hlt2 : i.1 < s.size := by rw [sz_data]; exact hlt
    rw [byte_wrap, Int.toNat_natCast] at h
    have e4 := loop_step hi hlt h
    have e5 : IntKind.i64.wrap (IntKind.i64.wrap (10 * i.2) - IntKind.i64.wrap (IntKind.i64.wrap (byteAt s ((i.1 : Nat) : Int).toNat) - 48)) = 10 * i.2 - (byteAt s i.1 - 48) := by rw [byte_wrap, Int.toNat_natCast]; exact e4.1
    refine Round.go (fun _ => (i.1 + 1, 10 * i.2 - (byteAt s i.1 - 48))) e4.2 (by show s.size - (i.1 + 1) < s.size - i.1; omega) (Weak.list [] [] (by kernel_rfl) ?_ ?_)
    · repeat' (first | exact wsucc hlt2 (by omega) | exact e5 | exact DW.same _ rfl | exact DW.ref _ _ _ rfl | exact DW.arr _ _ _ rfl | exact OW.cells rfl rfl (DWl.same rfl) | refine OW.cells rfl rfl ?_ | refine DWl.cons ?_ ?_ | exact DWl.nil | exact DW.nilArr _ rfl | exact DW.nilLst _ | refine DW.clol ?_ ?_ | refine DW.aggl ?_ | refine DW.tupl ?_ | refine DW.int ?_ | refine DW.bool ?_ | refine DW.str ?_ | refine DW.arrE rfl ?_ | ((conv => whnf); first | refine And.intro ?_ ?_ | trivial))
    · repeat' (first | exact wsucc hlt2 (by omega) | exact e5 | exact DW.same _ rfl | exact DW.ref _ _ _ rfl | exact DW.arr _ _ _ rfl | exact OW.cells rfl rfl (DWl.same rfl) | refine OW.cells rfl rfl ?_ | refine DWl.cons ?_ ?_ | exact DWl.nil | exact DW.nilArr _ rfl | exact DW.nilLst _ | refine DW.clol ?_ ?_ | refine DW.aggl ?_ | refine DW.tupl ?_ | refine DW.int ?_ | refine DW.bool ?_ | refine DW.str ?_ | refine DW.arrE rfl ?_ | ((conv => whnf); first | refine And.intro ?_ ?_ | trivial))
  · rename_i i hi
    have ha := at_one ‹(bif decide ((0 : Int) < (s.size : Int)) then byteAt s (Int.toNat 0) == 45 else false) = true›
    have hf := form ha ‹(bif (s.size : Int) == ((1 : Nat) : Int) then true else bif byteAt s (Int.toNat 1) == 48 then decide ((1 : Int) < (s.size : Int)) else false) = false›
    have hge : s.data.toList.length ≤ i.1 := by have := of_decide_eq_false h; rw [sz_data] at this; omega
    have e4 : numO s.data.toList = some i.2 := by rw [hf.2, loop_end hi hge]; rfl
    conv => whnf
    exact Tells.of (r1 := .tup [int1 i.2, bl true]) (by rw [e4]; rfl) (Tells.mk (DW.tupl (DWl.cons (DW.int rfl) (DWl.cons (DW.bool rfl) DWl.nil))))
  · have h5 : ((s.size : Int) == 0) = false := eq_of_beq h
    simp only [beq_eq_false_iff_ne] at h5
    omega
  · have ha := at_zero ‹(bif decide ((0 : Int) < (s.size : Int)) then byteAt s (Int.toNat 0) == 45 else false) = false›
    conv => whnf
    exact Tells.of (r1 := .tup [int1 0, bl false]) (by rw [no_form ha h]; rfl) (Tells.mk (DW.tupl (DWl.cons (DW.int rfl) (DWl.cons (DW.bool rfl) DWl.nil))))
  · rename_i i hi e1
    have ha := at_zero ‹(bif decide ((0 : Int) < (s.size : Int)) then byteAt s (Int.toNat 0) == 45 else false) = false›
    have hf := form ha ‹(bif (s.size : Int) == ((0 : Nat) : Int) then true else bif byteAt s (Int.toNat 0) == 48 then decide ((1 : Int) < (s.size : Int)) else false) = false›
    have hlt : i.1 < s.data.toList.length := by have := of_decide_eq_true e1; rw [sz_data] at this; omega
    rw [byte_wrap, Int.toNat_natCast] at h
    have e4 : numO s.data.toList = none := by rw [hf.2, loop_bad hi hlt h]
    conv => whnf
    exact Tells.of (r1 := .tup [int1 0, bl false]) (by rw [e4]; rfl) (Tells.mk (DW.tupl (DWl.cons (DW.int rfl) (DWl.cons (DW.bool rfl) DWl.nil))))
  · rename_i i hi e1
    have hlt : i.1 < s.data.toList.length := by have := of_decide_eq_true e1; rw [sz_data] at this; omega
    have hlt2 : i.1 < s.size := by rw [sz_data]; exact hlt
    rw [byte_wrap, Int.toNat_natCast] at h
    have e4 := loop_step hi hlt h
    have e5 : IntKind.i64.wrap (IntKind.i64.wrap (10 * i.2) - IntKind.i64.wrap (IntKind.i64.wrap (byteAt s ((i.1 : Nat) : Int).toNat) - 48)) = 10 * i.2 - (byteAt s i.1 - 48) := by rw [byte_wrap, Int.toNat_natCast]; exact e4.1
    refine Round.go (fun _ => (i.1 + 1, 10 * i.2 - (byteAt s i.1 - 48))) e4.2 (by show s.size - (i.1 + 1) < s.size - i.1; omega) (Weak.list [] [] (by kernel_rfl) ?_ ?_)
    · repeat' (first | exact wsucc hlt2 (by omega) | exact e5 | exact DW.same _ rfl | exact DW.ref _ _ _ rfl | exact DW.arr _ _ _ rfl | exact OW.cells rfl rfl (DWl.same rfl) | refine OW.cells rfl rfl ?_ | refine DWl.cons ?_ ?_ | exact DWl.nil | exact DW.nilArr _ rfl | exact DW.nilLst _ | refine DW.clol ?_ ?_ | refine DW.aggl ?_ | refine DW.tupl ?_ | refine DW.int ?_ | refine DW.bool ?_ | refine DW.str ?_ | refine DW.arrE rfl ?_ | ((conv => whnf); first | refine And.intro ?_ ?_ | trivial))
    · repeat' (first | exact wsucc hlt2 (by omega) | exact e5 | exact DW.same _ rfl | exact DW.ref _ _ _ rfl | exact DW.arr _ _ _ rfl | exact OW.cells rfl rfl (DWl.same rfl) | refine OW.cells rfl rfl ?_ | refine DWl.cons ?_ ?_ | exact DWl.nil | exact DW.nilArr _ rfl | exact DW.nilLst _ | refine DW.clol ?_ ?_ | refine DW.aggl ?_ | refine DW.tupl ?_ | refine DW.int ?_ | refine DW.bool ?_ | refine DW.str ?_ | refine DW.arrE rfl ?_ | ((conv => whnf); first | refine And.intro ?_ ?_ | trivial))
  · rename_i i hi e1 e0
    have ha := at_zero ‹(bif decide ((0 : Int) < (s.size : Int)) then byteAt s (Int.toNat 0) == 45 else false) = false›
    have hf := form ha ‹(bif (s.size : Int) == ((0 : Nat) : Int) then true else bif byteAt s (Int.toNat 0) == 48 then decide ((1 : Int) < (s.size : Int)) else false) = false›
    have hge : s.data.toList.length ≤ i.1 := by have := of_decide_eq_false e1; rw [sz_data] at this; omega
    have e4 : numO s.data.toList = none := by rw [hf.2, loop_end hi hge]; simp only [eq_of_beq h]; rfl
    conv => whnf
    exact Tells.of (r1 := .tup [int1 0, bl false]) (by rw [e4]; rfl) (Tells.mk (DW.tupl (DWl.cons (DW.int rfl) (DWl.cons (DW.bool rfl) DWl.nil))))
  · rename_i i hi e1 e0
    have ha := at_zero ‹(bif decide ((0 : Int) < (s.size : Int)) then byteAt s (Int.toNat 0) == 45 else false) = false›
    have hf := form ha ‹(bif (s.size : Int) == ((0 : Nat) : Int) then true else bif byteAt s (Int.toNat 0) == 48 then decide ((1 : Int) < (s.size : Int)) else false) = false›
    have hge : s.data.toList.length ≤ i.1 := by have := of_decide_eq_false e1; rw [sz_data] at this; omega
    have hne : ¬ i.2 = -9223372036854775808 := fun e => by rw [e] at h; cases h
    have e4 : numO s.data.toList = some (-i.2) := by rw [hf.2, loop_end hi hge]; exact (if_neg (by decide)).trans (if_neg hne)
    have e5 : IntKind.i64.wrap (0 - i.2) = -i.2 := by have := hi.2.1; have := hi.2.2.1; rw [wrapI (by omega) (by omega)]; omega
    conv => whnf
    exact Tells.of (r1 := .tup [int1 (-i.2), bl true]) (by rw [e4]; rfl) (Tells.mk (DW.tupl (DWl.cons (DW.int e5) (DWl.cons (DW.bool rfl) DWl.nil))))
end Go.Proofs.YtgaghkchdiepoaaDoor

/- A line read, by the document. -/
namespace Go.Proofs.YtgaghkchdiepoaaDoor
open Go.RowKit Go.Dl
attribute [local irreducible] Tri SCall TSem ECall Drawn DFun QSem PSem PCall GCall MCall Round Weak dloadE OW DWl Tells IntKind.wrap Retold ESem
def push5 (l : List Int) : Option Int → List Int
  | none => l
  | some v => if l.length < 5 then l ++ [v] else l
def docN (s : ByteArray) : Nat → Nat × List Int
  | 0 => (0, [])
  | i + 1 => if i < s.size ∧ byteAt s i ≠ 32 then docN s i else (i + 1, push5 (docN s i).2 (numO (s.extract (docN s i).1 i).data.toList))
def pad5 (l : List Int) : List Int := l ++ List.replicate (5 - l.length) 0
def docMx (k : Int) (l : List Int) : Mx := if k = 4 then ⟨4, l.getD 0 0, l.getD 1 0, 0, l.getD 2 0, l.getD 3 0⟩ else if k = 5 then ⟨5, l.getD 0 0, l.getD 1 0, 0, l.getD 2 0, 0⟩ else ⟨k, l.getD 0 0, l.getD 1 0, l.getD 2 0, 0, 0⟩
def hitM (s : ByteArray) (l : List Int) (k : Int) : Option Mx := if (bif entB 16 (docMx k l) then lineP (docMx k l) == s else false) = true then some (docMx k l) else none
def docR (s : ByteArray) : Option Mx := [1, 2, 3, 4, 5].findSome? (hitM s (pad5 (docN s (s.size + 1)).2))
def resM : Option Mx → Mx × Bool
  | none => (mx0, false)
  | some m => (m, true)
theorem docN_at (s : ByteArray) (i : Nat) : (docN s i).1 ≤ i := by
  induction i with
  | zero => exact Nat.le_refl _
  | succ i ih =>
    unfold docN
    split
    · omega
    · exact Nat.le_refl _
theorem push5_len {l : List Int} (h : l.length ≤ 5) (o : Option Int) : (push5 l o).length ≤ 5 := by
  unfold push5
  split
  · exact h
  · split
    · rw [List.length_append, List.length_singleton]; omega
    · exact h
theorem docN_len (s : ByteArray) (i : Nat) : (docN s i).2.length ≤ 5 := by
  induction i with
  | zero => exact Nat.zero_le _
  | succ i ih =>
    unfold docN
    split
    · exact ih
    · exact push5_len ih _
theorem pad5_len {l : List Int} (h : l.length ≤ 5) : (pad5 l).length = 5 := by
  rw [pad5, List.length_append, List.length_replicate]; omega
theorem pad5_push {l : List Int} (h : l.length < 5) : pad5 (l ++ [0]) = pad5 l := by
  rw [pad5, pad5, List.append_assoc, List.length_append, show 5 - l.length = (5 - (l.length + [(0 : Int)].length)) + 1 by simp only [List.length_singleton]; omega, List.replicate_succ]; rfl
theorem pad5_full {l : List Int} (h : l.length = 5) : pad5 l = l := by
  rw [pad5, h]; simp
def NoHitM (s : ByteArray) (l : List Int) (k : Nat) : Prop := (1 ≤ k ∧ k ≤ 6) ∧ ∀ j : Nat, 1 ≤ j → j < k → hitM s l j = none
theorem hitM_some {s : ByteArray} {l : List Int} {k : Nat} {m : Mx} (h : NoHitM s l k) (hk : k ≤ 5) (e : hitM s l k = some m) : [1, 2, 3, 4, 5].findSome? (hitM s l) = some m := by
  obtain ⟨⟨h1, _⟩, h2⟩ := h
  have hk : k = 1 ∨ k = 2 ∨ k = 3 ∨ k = 4 ∨ k = 5 := by omega
  have f : ∀ j : Nat, 1 ≤ j → j < k → ∀ t, (List.findSome? (hitM s l) (((j : Nat) : Int) :: t)) = t.findSome? (hitM s l) := fun j a b t => by rw [List.findSome?_cons, h2 j a b]
  have g : ∀ t, (List.findSome? (hitM s l) (((k : Nat) : Int) :: t)) = some m := fun t => by rw [List.findSome?_cons, e]
  rcases hk with rfl | rfl | rfl | rfl | rfl
  · exact g _
  · exact (f 1 (by omega) (by omega) _).trans (g _)
  · exact (f 1 (by omega) (by omega) _).trans ((f 2 (by omega) (by omega) _).trans (g _))
  · exact (f 1 (by omega) (by omega) _).trans ((f 2 (by omega) (by omega) _).trans ((f 3 (by omega) (by omega) _).trans (g _)))
  · exact (f 1 (by omega) (by omega) _).trans ((f 2 (by omega) (by omega) _).trans ((f 3 (by omega) (by omega) _).trans ((f 4 (by omega) (by omega) _).trans (g _))))
theorem hitM_none {s : ByteArray} {l : List Int} (h : NoHitM s l 6) : [1, 2, 3, 4, 5].findSome? (hitM s l) = none := by
  have f : ∀ j : Nat, 1 ≤ j → j < 6 → ∀ t, (List.findSome? (hitM s l) (((j : Nat) : Int) :: t)) = t.findSome? (hitM s l) := fun j a b t => by rw [List.findSome?_cons, h.2 j a b]
  exact (f 1 (by omega) (by omega) _).trans ((f 2 (by omega) (by omega) _).trans ((f 3 (by omega) (by omega) _).trans ((f 4 (by omega) (by omega) _).trans (f 5 (by omega) (by omega) []))))
theorem noHitM_next {s : ByteArray} {l : List Int} {k : Nat} (h : NoHitM s l k) (hk : k ≤ 5) (e : hitM s l k = none) : NoHitM s l (k + 1) := by
  refine ⟨⟨by omega, by omega⟩, fun j h1 h2 => ?_⟩
  by_cases hj : j = k
  · subst hj; exact e
  · exact h.2 j h1 (by omega)
theorem noHitM_one (s : ByteArray) (l : List Int) : NoHitM s l 1 := ⟨⟨by omega, by omega⟩, fun j h1 h2 => by omega⟩
theorem hitM_yes {s : ByteArray} {l : List Int} {k : Int} {m : Mx} (e : docMx k l = m) (h : (bif entB 16 m then lineP m == s else false) = true) : hitM s l k = some m := by rw [hitM, e, if_pos h]
theorem hitM_no {s : ByteArray} {l : List Int} {k : Int} {m : Mx} (e : docMx k l = m) (h : (bif entB 16 m then lineP m == s else false) = false) : hitM s l k = none := by rw [hitM, e, if_neg (by rw [h]; decide)]
def dn38 (s : ByteArray) (i : Nat × Nat × List Int) : St := ⟨0, tmOf [(0, strV s), (2, .ref 0 0), (4, .arr 1 i.2.2.length), (5, int1 i.2.1), (6, int1 i.1)], .of [(0, ⟨50, 6, mxD mx0⟩), (1, ⟨3, 1, rowC i.2.2⟩)] 2⟩
def dp38 (s : ByteArray) (L : List Int) : St := ⟨0, tmOf [(0, strV s), (2, .ref 0 0), (4, .arr 1 L.length)], .of [(0, ⟨50, 6, mxD mx0⟩), (1, ⟨3, 1, rowC L⟩)] 2⟩
def dk38 (s : ByteArray) (x y z u v : Int) (k : Nat) : St := ⟨0, tmOf [(0, strV s), (2, .ref 0 0), (4, .arr 1 5), (9, int1 k)], .of [(0, ⟨50, 6, mxD mx0⟩), (1, ⟨3, 1, [int1 x, int1 y, int1 z, int1 u, int1 v]⟩)] 2⟩
def DocI (s : ByteArray) (i : Nat × Nat × List Int) : Prop := i.1 ≤ s.size + 1 ∧ i.2 = docN s i.1
theorem docN_zero (s : ByteArray) : docN s 0 = (0, []) := rfl
theorem docN_skip {s : ByteArray} {i : Nat} (h : (bif decide ((i : Int) < (s.size : Int)) then byteAt s ((i : Nat) : Int).toNat != 32 else false) = true) : docN s (i + 1) = docN s i := by
  rw [Int.toNat_natCast] at h
  simp only [Bool.cond_false_right, Bool.and_eq_true, decide_eq_true_eq, bne_iff_ne, ne_eq] at h
  rw [docN, if_pos ⟨by omega, h.2⟩]
theorem docN_word {s : ByteArray} {i : Nat} (h : (bif decide ((i : Int) < (s.size : Int)) then byteAt s ((i : Nat) : Int).toNat != 32 else false) = false) : docN s (i + 1) = (i + 1, push5 (docN s i).2 (numO (s.extract (docN s i).1 i).data.toList)) := by
  rw [Int.toNat_natCast] at h
  simp only [Bool.cond_false_right, Bool.and_eq_false_imp, decide_eq_true_eq, bne_eq_false_iff_eq] at h
  rw [docN, if_neg fun hc => hc.2 (h (by omega))]
theorem num_yes {o : Option Int} (h : (numR o).2 = true) : o = some (numR o).1 := by
  cases o with
  | none => cases h
  | some v => rfl
theorem num_no {o : Option Int} (h : (numR o).2 = false) : o = none := by
  cases o with
  | none => rfl
  | some v => cases h
theorem doc_le {s : ByteArray} {i : Nat} (h : decide ((i : Int) ≤ (s.size : Int)) = true) : i < s.size + 1 := by
  have := of_decide_eq_true h; omega
theorem doc_len {s : ByteArray} {i : Nat × Nat × List Int} (hi : DocI s i) : i.2.2.length ≤ 5 := by rw [hi.2]; exact docN_len s i.1
theorem doc_skip {s : ByteArray} {i : Nat × Nat × List Int} (hi : DocI s i) (hle : i.1 < s.size + 1) (h : (bif decide ((i.1 : Int) < (s.size : Int)) then byteAt s ((i.1 : Nat) : Int).toNat != 32 else false) = true) : DocI s (i.1 + 1, i.2) :=
  ⟨hle, by rw [docN_skip h]; exact hi.2⟩
theorem doc_yes {s : ByteArray} {i : Nat × Nat × List Int} (hi : DocI s i) (hle : i.1 < s.size + 1) (h : (bif decide ((i.1 : Int) < (s.size : Int)) then byteAt s ((i.1 : Nat) : Int).toNat != 32 else false) = false)
    (hn : (bif (numR (numO (s.extract ((i.2.1 : Nat) : Int).toNat ((i.1 : Nat) : Int).toNat).data.toList)).2 then decide (((i.2.2.length : Nat) : Int) < 5) else false) = true) : DocI s (i.1 + 1, i.1 + 1, i.2.2 ++ [(numR (numO (s.extract ((i.2.1 : Nat) : Int).toNat ((i.1 : Nat) : Int).toNat).data.toList)).1]) ∧ i.2.2.length < 5 := by
  have h5 : (numR (numO (s.extract ((i.2.1 : Nat) : Int).toNat ((i.1 : Nat) : Int).toNat).data.toList)).2 = true ∧ i.2.2.length < 5 := by
    cases e : (numR (numO (s.extract ((i.2.1 : Nat) : Int).toNat ((i.1 : Nat) : Int).toNat).data.toList)).2
    · rw [e] at hn; cases hn
    · rw [e] at hn
      exact ⟨rfl, by have := of_decide_eq_true hn; omega⟩
  refine ⟨⟨hle, ?_⟩, h5.2⟩
  have e := num_yes h5.1
  rw [Int.toNat_natCast, Int.toNat_natCast] at e ⊢
  rw [docN_word h, ← hi.2]
  generalize numO (s.extract i.2.1 i.1).data.toList = o at e ⊢
  rw [e]
  show (i.1 + 1, i.2.2 ++ [(numR o).1]) = (i.1 + 1, push5 i.2.2 (some (numR o).1))
  rw [push5, if_pos h5.2]
theorem doc_no {s : ByteArray} {i : Nat × Nat × List Int} (hi : DocI s i) (hle : i.1 < s.size + 1) (h : (bif decide ((i.1 : Int) < (s.size : Int)) then byteAt s ((i.1 : Nat) : Int).toNat != 32 else false) = false)
    (hn : (bif (numR (numO (s.extract ((i.2.1 : Nat) : Int).toNat ((i.1 : Nat) : Int).toNat).data.toList)).2 then decide (((i.2.2.length : Nat) : Int) < 5) else false) = false) : DocI s (i.1 + 1, i.1 + 1, i.2.2) := by
  refine ⟨hle, ?_⟩
  rw [Int.toNat_natCast, Int.toNat_natCast] at hn
  rw [docN_word h, ← hi.2]
  cases e : numO (s.extract i.2.1 i.1).data.toList with
  | none => rfl
  | some v =>
    rw [e] at hn
    have h5 : ¬ i.2.2.length < 5 := by
      have := of_decide_eq_false (show decide (((i.2.2.length : Nat) : Int) < 5) = false from hn)
      omega
    show (i.1 + 1, i.2.2) = (i.1 + 1, push5 i.2.2 (some v))
    rw [push5, if_neg h5]
theorem doc_end {s : ByteArray} {i : Nat × Nat × List Int} (hi : DocI s i) (h : decide ((i.1 : Int) ≤ (s.size : Int)) = false) : i.2.2 = (docN s (s.size + 1)).2 := by
  have h1 := of_decide_eq_false h
  have h2 := hi.1
  have : i.1 = s.size + 1 := by omega
  rw [← this, ← hi.2]
theorem doc_at {s : ByteArray} {i : Nat × Nat × List Int} (hi : DocI s i) : ((i.2.1 : Nat) : Int) ≤ ((i.1 : Nat) : Int) := by
  have := docN_at s i.1
  rw [← hi.2] at this
  exact Int.ofNat_le.2 this
def PadI (N : List Int) (L : List Int) : Prop := L.length ≤ 5 ∧ pad5 L = N
theorem row_five (x y z u v : Int) : rowC [x, y, z, u, v] = [int1 x, int1 y, int1 z, int1 u, int1 v] := rfl
theorem rowC_zero (L : List Int) : (rowC L).take (L.length * 1) ++ [int1 0] = rowC (L ++ [0]) := rowC_push L 0
theorem pad_next {N L : List Int} (h : PadI N L) (h5 : L.length < 5) : PadI N (L ++ [0]) := ⟨by rw [List.length_append, List.length_singleton]; omega, by rw [pad5_push h5]; exact h.2⟩
theorem docMx_4 {k x y z u v : Int} (h : k = 4) : docMx k [x, y, z, u, v] = ⟨k, x, y, 0, z, u⟩ := by subst h; rfl
theorem docMx_5 {k x y z u v : Int} (h : k = 5) : docMx k [x, y, z, u, v] = ⟨k, x, y, 0, z, 0⟩ := by subst h; rfl
theorem docMx_n {k x y z u v : Int} (h : k ≠ 4) (h2 : k ≠ 5) : docMx k [x, y, z, u, v] = ⟨k, x, y, z, 0, 0⟩ := by rw [docMx, if_neg h, if_neg h2]; rfl
theorem ne_of_beq {a b : Int} (h : (a == b) = false) : a ≠ b := by simpa using h
theorem line40_G (m : Mx) (hg : (entB 16 m == true) = true) : DPure Tryd.prog 40 [.agg (mxD m)] (strV (lineP m)) := line40_E m (ent_iff.1 (by simpa using hg))
attribute [local irreducible] numO byteAt lineP docN hitM entB rowC docR
set_option maxRecDepth 20000 in
set_option maxHeartbeats 1000000 in
theorem read38_D (s : ByteArray) (hs : s.size < 4294967281) : DPure Tryd.prog 38 [strV s] (.tup [.agg (mxD (resM (docR s)).1), bl (resM (docR s)).2]) := by
  have hdoc : docR s = [1, 2, 3, 4, 5].findSome? (hitM s (pad5 (docN s (s.size + 1)).2)) := by unfold docR; rfl
  refine DFun.data (DFun.body Tryd.func38 rfl (by kernel_rfl) ?_)
  repeat' (first | with_reducible rfl | ((conv => whnf); first | refine And.intro ?_ ?_ | (intro h; first | with_reducible exact tf_no h | with_reducible exact ft_no h | exact Bool.noConfusion h | with_reducible exact h | (have ht : true = true := h; clear ht h) | skip) | ((with_reducible refine DWl.mark ?_); repeat' (first | refine DWl.cons ?_ ?_ | exact DWl.nil | exact DW.same _ rfl | exact DW.ref _ _ _ rfl | exact DW.arr _ _ _ rfl | exact DW.sub _ _ _ _ rfl | exact DW.nilLst _ | refine DW.aggl ?_ | refine DW.tupl ?_ | refine DW.clol ?_ ?_ | refine DW.int ?_ | refine DW.bool ?_ | refine DW.str ?_)) | ((with_reducible refine SCall.mark ?_); first | refine SCall.data (number56_D _ ?_) rfl rfl ?_ | refine SCall.scal (number56_D _ ?_) rfl rfl ?_) | ((with_reducible refine PCall.mark ?_); first | refine PCall.mk (number56_D _ ?_) rfl rfl ?_) | ((with_reducible refine GCall.mark ?_); first | refine GCall.data (fun _ => number56_D _ ?_) rfl rfl ?_ | refine GCall.scal (fun _ => number56_D _ ?_) rfl rfl ?_) | ((with_reducible refine MCall.mark ?_); first | refine MCall.data (fun _ => number56_D _ ?_) rfl rfl ?_ | refine MCall.plain (PCall.mk (number56_D _ ?_) rfl rfl ?_)) | ((with_reducible refine Tri.mark ?_); first | (refine Tri.at (6) (int1 0) (by rfl) ?_; refine Tri.loop (dn38 s) (DocI s) (fun i => s.size + 1 - i.1) (0, 0, []) (by kernel_rfl) (Weak.list [(0, some 0), (1, none)] [] (by kernel_rfl) ?_ ?_) ?_ ?_)) | ((with_reducible refine ECall.mark ?_); first | refine ECall.only ?_ (fun h => nomatch h) | refine ECall.only ?_ ?_) | ((with_reducible refine Drawn.mark ?_); first | refine Drawn.quiet (by kernel_rfl) ?_) | refine dcell_ok rfl ?_ | refine AppC.new ?_))
  all_goals first | (with_reducible refine enters_mark ?_; kernel_rfl) | (with_reducible refine boolT_mark ?_; kernel_rfl) | rfl | trivial | assumption | exact Nat.le_of_ble_eq_true rfl | (show entersB _ _ = true; kernel_rfl) | exact DW.same _ rfl | exact DW.ref _ _ _ rfl | exact DW.arr _ _ _ rfl | refine DW.int ?_ | refine dvb ?_ | refine dvi ?_ | exact OW.cells rfl rfl (DWl.same rfl) | exact Nat.zero_le _ | omega | skip
  all_goals repeat' (first | refine OW.cells rfl rfl ?_ | exact DW.nilArr _ rfl | refine DWl.cons ?_ ?_ | exact DWl.nil | exact DW.same _ rfl | exact DW.ref _ _ _ rfl | exact DW.arr _ _ _ rfl | exact DW.sub _ _ _ _ rfl | exact DW.nilLst _ | refine DW.aggl ?_ | refine DW.tupl ?_ | refine DW.clol ?_ ?_)
  all_goals try ((conv => whnf); with_reducible first | refine Round.mark ?_ | refine Tells.mark ?_ | refine Retold.mark ?_)
  all_goals try first | (show (_ : Bool) = _; simp_all; done) | (show (_ : Int) < _; simp at *; omega) | (show (_ : Int) ≤ _; simp at *; omega) | (show (_ : Nat) < _; simp at *; omega) | (show (_ : Nat) ≤ _; simp at *; omega)
  · conv => whnf
    exact rowC_nil
  · exact (docN_zero s).symm
  · rename_i i hi e1
    have hle := doc_le e1
    refine Round.go (fun _ => (i.1 + 1, i.2)) (doc_skip hi hle h) (by show s.size + 1 - (i.1 + 1) < s.size + 1 - i.1; omega) (Weak.list [(0, some 0), (1, some 1)] [] (by kernel_rfl) ?_ ?_)
    · repeat' (first | exact wsucc hle (by omega) | exact OW.cells rfl rfl (DWl.same (rowC_all _)) | exact DW.same _ rfl | exact DW.ref _ _ _ rfl | exact DW.arr _ _ _ rfl | exact OW.cells rfl rfl (DWl.same rfl) | refine OW.cells rfl rfl ?_ | refine DWl.cons ?_ ?_ | exact DWl.nil | exact DW.nilArr _ rfl | exact DW.nilLst _ | refine DW.clol ?_ ?_ | refine DW.aggl ?_ | refine DW.tupl ?_ | refine DW.int ?_ | refine DW.bool ?_ | refine DW.str ?_ | refine DW.arrE rfl ?_ | ((conv => whnf); first | refine And.intro ?_ ?_ | trivial))
    · repeat' (first | exact wsucc hle (by omega) | exact OW.cells rfl rfl (DWl.same (rowC_all _)) | exact DW.same _ rfl | exact DW.ref _ _ _ rfl | exact DW.arr _ _ _ rfl | exact OW.cells rfl rfl (DWl.same rfl) | refine OW.cells rfl rfl ?_ | refine DWl.cons ?_ ?_ | exact DWl.nil | exact DW.nilArr _ rfl | exact DW.nilLst _ | refine DW.clol ?_ ?_ | refine DW.aggl ?_ | refine DW.tupl ?_ | refine DW.int ?_ | refine DW.bool ?_ | refine DW.str ?_ | refine DW.arrE rfl ?_ | ((conv => whnf); first | refine And.intro ?_ ?_ | trivial))
  · rename_i i hi e1
    exact doc_at hi
  · exact rc_b1 _
  · rename_i i hi e1 e0
    exact rc_b3 (by have := doc_len hi; omega)
  · rename_i i hi e1 e0
    have hle := doc_le e1
    refine Round.go (fun _ => (i.1 + 1, i.1 + 1, i.2.2 ++ [(numR (numO (s.extract ((i.2.1 : Nat) : Int).toNat ((i.1 : Nat) : Int).toNat).data.toList)).1])) (doc_yes hi hle e0 h).1 (by show s.size + 1 - (i.1 + 1) < s.size + 1 - i.1; omega) (Weak.list [(0, some 0), (1, some 3)] [] (by kernel_rfl) ?_ ?_)
    · repeat' (first | exact wsucc hle (by omega) | exact OW.cells rfl rfl (DWl.eq (rowC_push i.2.2 _) (rowC_all _)) | exact pushI _ _ | exact DW.same _ rfl | exact DW.ref _ _ _ rfl | exact DW.arr _ _ _ rfl | exact OW.cells rfl rfl (DWl.same rfl) | refine OW.cells rfl rfl ?_ | refine DWl.cons ?_ ?_ | exact DWl.nil | exact DW.nilArr _ rfl | exact DW.nilLst _ | refine DW.clol ?_ ?_ | refine DW.aggl ?_ | refine DW.tupl ?_ | refine DW.int ?_ | refine DW.bool ?_ | refine DW.str ?_ | refine DW.arrE rfl ?_ | ((conv => whnf); first | refine And.intro ?_ ?_ | trivial))
    · repeat' (first | exact wsucc hle (by omega) | exact OW.cells rfl rfl (DWl.eq (rowC_push i.2.2 _) (rowC_all _)) | exact pushI _ _ | exact DW.same _ rfl | exact DW.ref _ _ _ rfl | exact DW.arr _ _ _ rfl | exact OW.cells rfl rfl (DWl.same rfl) | refine OW.cells rfl rfl ?_ | refine DWl.cons ?_ ?_ | exact DWl.nil | exact DW.nilArr _ rfl | exact DW.nilLst _ | refine DW.clol ?_ ?_ | refine DW.aggl ?_ | refine DW.tupl ?_ | refine DW.int ?_ | refine DW.bool ?_ | refine DW.str ?_ | refine DW.arrE rfl ?_ | ((conv => whnf); first | refine And.intro ?_ ?_ | trivial))
  · rename_i i hi e1 e0
    have hle := doc_le e1
    refine Round.go (fun _ => (i.1 + 1, i.1 + 1, i.2.2)) (doc_no hi hle e0 h) (by show s.size + 1 - (i.1 + 1) < s.size + 1 - i.1; omega) (Weak.list [(0, some 0), (1, some 1)] [] (by kernel_rfl) ?_ ?_)
    · repeat' (first | exact wsucc hle (by omega) | exact OW.cells rfl rfl (DWl.same (rowC_all _)) | exact DW.same _ rfl | exact DW.ref _ _ _ rfl | exact DW.arr _ _ _ rfl | exact OW.cells rfl rfl (DWl.same rfl) | refine OW.cells rfl rfl ?_ | refine DWl.cons ?_ ?_ | exact DWl.nil | exact DW.nilArr _ rfl | exact DW.nilLst _ | refine DW.clol ?_ ?_ | refine DW.aggl ?_ | refine DW.tupl ?_ | refine DW.int ?_ | refine DW.bool ?_ | refine DW.str ?_ | refine DW.arrE rfl ?_ | ((conv => whnf); first | refine And.intro ?_ ?_ | trivial))
    · repeat' (first | exact wsucc hle (by omega) | exact OW.cells rfl rfl (DWl.same (rowC_all _)) | exact DW.same _ rfl | exact DW.ref _ _ _ rfl | exact DW.arr _ _ _ rfl | exact OW.cells rfl rfl (DWl.same rfl) | refine OW.cells rfl rfl ?_ | refine DWl.cons ?_ ?_ | exact DWl.nil | exact DW.nilArr _ rfl | exact DW.nilLst _ | refine DW.clol ?_ ?_ | refine DW.aggl ?_ | refine DW.tupl ?_ | refine DW.int ?_ | refine DW.bool ?_ | refine DW.str ?_ | refine DW.arrE rfl ?_ | ((conv => whnf); first | refine And.intro ?_ ?_ | trivial))
  · rename_i i hi
    have hend := doc_end hi h
    have hlen := doc_len hi
    clear hi h
    obtain ⟨i0, a0, L⟩ := i
    have hend : L = _ := hend
    rw [← hend] at hdoc
    generalize hN : pad5 L = N at hdoc
    conv => whnf
    refine Tri.loop (dp38 s) (PadI N) (fun L => 5 - L.length) L (by kernel_rfl) (Weak.list [(0, some 0), (1, some 1)] [] (by kernel_rfl) ?_ ?_) ?_ ?_
    · repeat' (first | exact OW.cells rfl rfl (DWl.same (rowC_all _)) | exact DW.same _ rfl | exact DW.ref _ _ _ rfl | exact DW.arr _ _ _ rfl | exact OW.cells rfl rfl (DWl.same rfl) | refine OW.cells rfl rfl ?_ | refine DWl.cons ?_ ?_ | exact DWl.nil | exact DW.nilArr _ rfl | exact DW.nilLst _ | refine DW.clol ?_ ?_ | refine DW.aggl ?_ | refine DW.tupl ?_ | refine DW.int ?_ | refine DW.bool ?_ | refine DW.str ?_ | refine DW.arrE rfl ?_ | ((conv => whnf); first | refine And.intro ?_ ?_ | trivial))
    · repeat' (first | exact OW.cells rfl rfl (DWl.same (rowC_all _)) | exact DW.same _ rfl | exact DW.ref _ _ _ rfl | exact DW.arr _ _ _ rfl | exact OW.cells rfl rfl (DWl.same rfl) | refine OW.cells rfl rfl ?_ | refine DWl.cons ?_ ?_ | exact DWl.nil | exact DW.nilArr _ rfl | exact DW.nilLst _ | refine DW.clol ?_ ?_ | refine DW.aggl ?_ | refine DW.tupl ?_ | refine DW.int ?_ | refine DW.bool ?_ | refine DW.str ?_ | refine DW.arrE rfl ?_ | ((conv => whnf); first | refine And.intro ?_ ?_ | trivial))
    · exact ⟨hlen, hN⟩
    clear hend hlen hN
    intro L2 hL2
    repeat' (first | with_reducible rfl | ((conv => whnf); first | refine And.intro ?_ ?_ | (intro h; first | with_reducible exact tf_no h | with_reducible exact ft_no h | exact Bool.noConfusion h | with_reducible exact h | (have ht : true = true := h; clear ht h) | skip) | ((with_reducible refine DWl.mark ?_); repeat' (first | refine DWl.cons ?_ ?_ | exact DWl.nil | exact DW.same _ rfl | exact DW.ref _ _ _ rfl | exact DW.arr _ _ _ rfl | exact DW.sub _ _ _ _ rfl | exact DW.nilLst _ | refine DW.aggl ?_ | refine DW.tupl ?_ | refine DW.clol ?_ ?_ | refine DW.int ?_ | refine DW.bool ?_ | refine DW.str ?_)) | ((with_reducible refine ECall.mark ?_); first | refine ECall.only ?_ (fun h => nomatch h) | refine ECall.only ?_ ?_) | ((with_reducible refine Drawn.mark ?_); first | refine Drawn.quiet (by kernel_rfl) ?_) | refine dcell_ok rfl ?_ | refine AppC.new ?_))
    all_goals try ((conv => whnf); first | with_reducible refine Round.mark ?_ | with_reducible refine Tells.mark ?_)
    all_goals try first | ((with_reducible show Option.isSome (slElem _ _) = true); kernel_rfl) | ((with_reducible show slElem _ _ = some _); kernel_rfl) | ((with_reducible refine enters_mark ?_); kernel_rfl) | (with_reducible assumption) | ((with_reducible show List.all _ DV.one = true); rfl) | ((with_reducible show (_ : Nat) = _); rfl) | ((with_reducible show (_ == true) = true); simpa using h) | ((with_reducible show (_ : Nat) ≤ _); exact Nat.le_of_ble_eq_true rfl) | ((with_reducible show (_ : Int) ≤ _); first | omega | decide) | ((with_reducible show (_ : Int) < _); first | omega | decide) | ((with_reducible show (_ : Nat) < _); omega) | ((with_reducible show (_ : Nat) ≤ _); omega)
    · exact rc_b1 _
    · have := of_decide_eq_true h
      exact rc_b2 (by omega)
    · have := of_decide_eq_true h
      exact rc_b3 (by omega)
    · have hlt : L2.length < 5 := by have := of_decide_eq_true h; omega
      refine Round.go (fun _ => L2 ++ [0]) (pad_next hL2 hlt) (by show 5 - (L2 ++ [0]).length < 5 - L2.length; rw [List.length_append, List.length_singleton]; omega) (Weak.list [(0, some 0), (1, some 3)] [] (by kernel_rfl) ?_ ?_)
      · repeat' (first | exact OW.cells rfl rfl (DWl.eq (rowC_push L2 0) (rowC_all _)) | exact pushI _ _ | exact DW.same _ rfl | exact DW.ref _ _ _ rfl | exact DW.arr _ _ _ rfl | exact OW.cells rfl rfl (DWl.same rfl) | refine OW.cells rfl rfl ?_ | refine DWl.cons ?_ ?_ | exact DWl.nil | exact DW.nilArr _ rfl | exact DW.nilLst _ | refine DW.clol ?_ ?_ | refine DW.aggl ?_ | refine DW.tupl ?_ | refine DW.int ?_ | refine DW.bool ?_ | refine DW.str ?_ | refine DW.arrE rfl ?_ | ((conv => whnf); first | refine And.intro ?_ ?_ | trivial))
      · repeat' (first | exact OW.cells rfl rfl (DWl.eq (rowC_push L2 0) (rowC_all _)) | exact pushI _ _ | exact DW.same _ rfl | exact DW.ref _ _ _ rfl | exact DW.arr _ _ _ rfl | exact OW.cells rfl rfl (DWl.same rfl) | refine OW.cells rfl rfl ?_ | refine DWl.cons ?_ ?_ | exact DWl.nil | exact DW.nilArr _ rfl | exact DW.nilLst _ | refine DW.clol ?_ ?_ | refine DW.aggl ?_ | refine DW.tupl ?_ | refine DW.int ?_ | refine DW.bool ?_ | refine DW.str ?_ | refine DW.arrE rfl ?_ | ((conv => whnf); first | refine And.intro ?_ ?_ | trivial))
    · have hge := of_decide_eq_false h
      have hL5 : L2.length = 5 := by have := hL2.1; omega
      have hN5 := hL2.2
      rw [pad5_full hL5] at hN5
      subst hN5
      clear hL2 h hge
      match L2, hL5 with
      | [x, y, z, u, v], _ =>
      rw [hdoc]
      clear hdoc
      conv => whnf
      refine Tri.at 9 (int1 1) (by rfl) ?_
      refine Tri.loop (dk38 s x y z u v) (NoHitM s [x, y, z, u, v]) (fun k => 6 - k) 1 (by kernel_rfl) (Weak.list [(0, some 0), (1, some 1)] [] (by kernel_rfl) ?_ ?_) (noHitM_one s _) ?_
      · repeat' (first | exact OW.cells rfl rfl (DWl.eq (row_five x y z u v) (by rfl)) | exact DW.same _ rfl | exact DW.ref _ _ _ rfl | exact DW.arr _ _ _ rfl | exact OW.cells rfl rfl (DWl.same rfl) | refine OW.cells rfl rfl ?_ | refine DWl.cons ?_ ?_ | exact DWl.nil | exact DW.nilArr _ rfl | exact DW.nilLst _ | refine DW.clol ?_ ?_ | refine DW.aggl ?_ | refine DW.tupl ?_ | refine DW.int ?_ | refine DW.bool ?_ | refine DW.str ?_ | refine DW.arrE rfl ?_ | ((conv => whnf); first | refine And.intro ?_ ?_ | trivial))
      · repeat' (first | exact OW.cells rfl rfl (DWl.eq (row_five x y z u v) (by rfl)) | exact DW.same _ rfl | exact DW.ref _ _ _ rfl | exact DW.arr _ _ _ rfl | exact OW.cells rfl rfl (DWl.same rfl) | refine OW.cells rfl rfl ?_ | refine DWl.cons ?_ ?_ | exact DWl.nil | exact DW.nilArr _ rfl | exact DW.nilLst _ | refine DW.clol ?_ ?_ | refine DW.aggl ?_ | refine DW.tupl ?_ | refine DW.int ?_ | refine DW.bool ?_ | refine DW.str ?_ | refine DW.arrE rfl ?_ | ((conv => whnf); first | refine And.intro ?_ ?_ | trivial))
      intro k hk
      repeat' (first | with_reducible rfl | ((conv => whnf); first | refine And.intro ?_ ?_ | (intro h; first | with_reducible exact tf_no h | with_reducible exact ft_no h | exact Bool.noConfusion h | with_reducible exact h | (exfalso; have h4 := eq_of_beq ‹((k : Int) == 4) = true›; have h5 := eq_of_beq h; omega) | (have ht : true = true := h; clear ht h) | skip) | ((with_reducible refine DWl.mark ?_); repeat' (first | refine DWl.cons ?_ ?_ | exact DWl.nil | exact DW.same _ rfl | exact DW.ref _ _ _ rfl | exact DW.arr _ _ _ rfl | exact DW.sub _ _ _ _ rfl | exact DW.nilLst _ | refine DW.aggl ?_ | refine DW.tupl ?_ | refine DW.clol ?_ ?_ | refine DW.int ?_ | refine DW.bool ?_ | refine DW.str ?_)) | ((with_reducible refine SCall.mark ?_); first | refine SCall.data (entry27_D 16 ⟨(k : Int), x, y, z, 0, 0⟩) rfl rfl ?_ | refine SCall.scal (entry27_D 16 ⟨(k : Int), x, y, z, 0, 0⟩) rfl rfl ?_ | refine SCall.data (entry27_D 16 ⟨(k : Int), x, y, 0, z, u⟩) rfl rfl ?_ | refine SCall.scal (entry27_D 16 ⟨(k : Int), x, y, 0, z, u⟩) rfl rfl ?_ | refine SCall.data (entry27_D 16 ⟨(k : Int), x, y, 0, z, 0⟩) rfl rfl ?_ | refine SCall.scal (entry27_D 16 ⟨(k : Int), x, y, 0, z, 0⟩) rfl rfl ?_) | ((with_reducible refine PCall.mark ?_); first | refine PCall.mk (entry27_D 16 ⟨(k : Int), x, y, z, 0, 0⟩) rfl rfl ?_ | refine PCall.mk (entry27_D 16 ⟨(k : Int), x, y, 0, z, u⟩) rfl rfl ?_ | refine PCall.mk (entry27_D 16 ⟨(k : Int), x, y, 0, z, 0⟩) rfl rfl ?_) | ((with_reducible refine GCall.mark ?_); first | refine GCall.data (fun _ => entry27_D 16 ⟨(k : Int), x, y, z, 0, 0⟩) rfl rfl ?_ | refine GCall.scal (fun _ => entry27_D 16 ⟨(k : Int), x, y, z, 0, 0⟩) rfl rfl ?_ | refine GCall.data (fun hg => line40_G ⟨(k : Int), x, y, z, 0, 0⟩ hg) rfl rfl ?_ | refine GCall.data (fun _ => entry27_D 16 ⟨(k : Int), x, y, 0, z, u⟩) rfl rfl ?_ | refine GCall.scal (fun _ => entry27_D 16 ⟨(k : Int), x, y, 0, z, u⟩) rfl rfl ?_ | refine GCall.data (fun hg => line40_G ⟨(k : Int), x, y, 0, z, u⟩ hg) rfl rfl ?_ | refine GCall.data (fun _ => entry27_D 16 ⟨(k : Int), x, y, 0, z, 0⟩) rfl rfl ?_ | refine GCall.scal (fun _ => entry27_D 16 ⟨(k : Int), x, y, 0, z, 0⟩) rfl rfl ?_ | refine GCall.data (fun hg => line40_G ⟨(k : Int), x, y, 0, z, 0⟩ hg) rfl rfl ?_) | ((with_reducible refine MCall.mark ?_); first | refine MCall.data (fun _ => entry27_D 16 ⟨(k : Int), x, y, z, 0, 0⟩) rfl rfl ?_ | refine MCall.plain (PCall.mk (entry27_D 16 ⟨(k : Int), x, y, z, 0, 0⟩) rfl rfl ?_) | refine MCall.data (fun _ => entry27_D 16 ⟨(k : Int), x, y, 0, z, u⟩) rfl rfl ?_ | refine MCall.plain (PCall.mk (entry27_D 16 ⟨(k : Int), x, y, 0, z, u⟩) rfl rfl ?_) | refine MCall.data (fun _ => entry27_D 16 ⟨(k : Int), x, y, 0, z, 0⟩) rfl rfl ?_ | refine MCall.plain (PCall.mk (entry27_D 16 ⟨(k : Int), x, y, 0, z, 0⟩) rfl rfl ?_)) | ((with_reducible refine Tri.mark ?_); first | (refine Tri.movesN [2] [(true, 0), (true, 1), (true, 2), (true, 3), (true, 4), (true, 5), (true, 6), (true, 7), (true, 8), (true, 9), (true, 10), (false, 11), (false, 12)] ?_ (by kernel_rfl) ?_; rfl)) | ((with_reducible refine ECall.mark ?_); first | refine ECall.only ?_ (fun h => nomatch h) | refine ECall.only ?_ ?_) | ((with_reducible refine Drawn.mark ?_); first | refine Drawn.quiet (by kernel_rfl) ?_) | refine dcell_ok rfl ?_ | refine AppC.new ?_))
      all_goals try ((conv => whnf); first | with_reducible refine Round.mark ?_ | with_reducible refine Tells.mark ?_)
      all_goals try first | ((with_reducible show Option.all _ _ = true); rfl) | ((with_reducible show Option.isSome (slElem _ _) = true); kernel_rfl) | ((with_reducible show slElem _ _ = some _); kernel_rfl) | ((with_reducible refine enters_mark ?_); kernel_rfl) | (with_reducible assumption) | ((with_reducible show List.all _ DV.one = true); rfl) | ((with_reducible show (_ : Nat) = _); rfl) | ((with_reducible show (_ == true) = true); simpa using h) | ((with_reducible show (_ : Nat) ≤ _); exact Nat.le_of_ble_eq_true rfl) | ((with_reducible show (_ : Int) ≤ _); first | omega | decide) | ((with_reducible show (_ : Int) < _); first | omega | decide) | ((with_reducible show (_ : Nat) < _); omega) | ((with_reducible show (_ : Nat) ≤ _); omega)
      · have hk5 : k ≤ 5 := by have := of_decide_eq_true ‹decide ((k : Int) < 6) = true›; omega
        have hm := hitM_yes (s := s) (l := [x, y, z, u, v]) (docMx_4 (eq_of_beq ‹((k : Int) == 4) = true›)) h
        exact Tells.of (r1 := .tup [.agg (mxD ⟨(k : Int), x, y, 0, z, u⟩), bl true]) (by rw [hitM_some hk hk5 hm]; rfl) (Tells.mk (DW.tupl (DWl.cons (DW.aggl (DWl.cons (DW.int rfl) (DWl.cons (DW.int rfl) (DWl.cons (DW.int rfl) (DWl.cons (DW.int rfl) (DWl.cons (DW.int rfl) (DWl.cons (DW.int rfl) DWl.nil))))))) (DWl.cons (DW.bool rfl) DWl.nil))))
      · have hk5 : k ≤ 5 := by have := of_decide_eq_true ‹decide ((k : Int) < 6) = true›; omega
        have hm := hitM_no (s := s) (l := [x, y, z, u, v]) (docMx_4 (eq_of_beq ‹((k : Int) == 4) = true›)) h
        refine Round.go (· + 1) (noHitM_next hk hk5 hm) (by show 6 - (k + 1) < 6 - k; omega) (Weak.list [(0, some 0), (1, some 1)] [] (by kernel_rfl) ?_ ?_)
        · repeat' (first | exact wsucc (n := 6) (by omega) (by omega) | exact DW.same _ rfl | exact DW.ref _ _ _ rfl | exact DW.arr _ _ _ rfl | exact OW.cells rfl rfl (DWl.same rfl) | refine OW.cells rfl rfl ?_ | refine DWl.cons ?_ ?_ | exact DWl.nil | exact DW.nilArr _ rfl | exact DW.nilLst _ | refine DW.clol ?_ ?_ | refine DW.aggl ?_ | refine DW.tupl ?_ | refine DW.int ?_ | refine DW.bool ?_ | refine DW.str ?_ | refine DW.arrE rfl ?_ | ((conv => whnf); first | refine And.intro ?_ ?_ | trivial))
        · repeat' (first | exact wsucc (n := 6) (by omega) (by omega) | exact DW.same _ rfl | exact DW.ref _ _ _ rfl | exact DW.arr _ _ _ rfl | exact OW.cells rfl rfl (DWl.same rfl) | refine OW.cells rfl rfl ?_ | refine DWl.cons ?_ ?_ | exact DWl.nil | exact DW.nilArr _ rfl | exact DW.nilLst _ | refine DW.clol ?_ ?_ | refine DW.aggl ?_ | refine DW.tupl ?_ | refine DW.int ?_ | refine DW.bool ?_ | refine DW.str ?_ | refine DW.arrE rfl ?_ | ((conv => whnf); first | refine And.intro ?_ ?_ | trivial))
      · have hk5 : k ≤ 5 := by have := of_decide_eq_true ‹decide ((k : Int) < 6) = true›; omega
        have hm := hitM_yes (s := s) (l := [x, y, z, u, v]) (docMx_5 (eq_of_beq ‹((k : Int) == 5) = true›)) h
        exact Tells.of (r1 := .tup [.agg (mxD ⟨(k : Int), x, y, 0, z, 0⟩), bl true]) (by rw [hitM_some hk hk5 hm]; rfl) (Tells.mk (DW.tupl (DWl.cons (DW.aggl (DWl.cons (DW.int rfl) (DWl.cons (DW.int rfl) (DWl.cons (DW.int rfl) (DWl.cons (DW.int rfl) (DWl.cons (DW.int rfl) (DWl.cons (DW.int rfl) DWl.nil))))))) (DWl.cons (DW.bool rfl) DWl.nil))))
      · have hk5 : k ≤ 5 := by have := of_decide_eq_true ‹decide ((k : Int) < 6) = true›; omega
        have hm := hitM_no (s := s) (l := [x, y, z, u, v]) (docMx_5 (eq_of_beq ‹((k : Int) == 5) = true›)) h
        refine Round.go (· + 1) (noHitM_next hk hk5 hm) (by show 6 - (k + 1) < 6 - k; omega) (Weak.list [(0, some 0), (1, some 1)] [] (by kernel_rfl) ?_ ?_)
        · repeat' (first | exact wsucc (n := 6) (by omega) (by omega) | exact DW.same _ rfl | exact DW.ref _ _ _ rfl | exact DW.arr _ _ _ rfl | exact OW.cells rfl rfl (DWl.same rfl) | refine OW.cells rfl rfl ?_ | refine DWl.cons ?_ ?_ | exact DWl.nil | exact DW.nilArr _ rfl | exact DW.nilLst _ | refine DW.clol ?_ ?_ | refine DW.aggl ?_ | refine DW.tupl ?_ | refine DW.int ?_ | refine DW.bool ?_ | refine DW.str ?_ | refine DW.arrE rfl ?_ | ((conv => whnf); first | refine And.intro ?_ ?_ | trivial))
        · repeat' (first | exact wsucc (n := 6) (by omega) (by omega) | exact DW.same _ rfl | exact DW.ref _ _ _ rfl | exact DW.arr _ _ _ rfl | exact OW.cells rfl rfl (DWl.same rfl) | refine OW.cells rfl rfl ?_ | refine DWl.cons ?_ ?_ | exact DWl.nil | exact DW.nilArr _ rfl | exact DW.nilLst _ | refine DW.clol ?_ ?_ | refine DW.aggl ?_ | refine DW.tupl ?_ | refine DW.int ?_ | refine DW.bool ?_ | refine DW.str ?_ | refine DW.arrE rfl ?_ | ((conv => whnf); first | refine And.intro ?_ ?_ | trivial))
      · have hk5 : k ≤ 5 := by have := of_decide_eq_true ‹decide ((k : Int) < 6) = true›; omega
        have hm := hitM_yes (s := s) (l := [x, y, z, u, v]) (docMx_n (ne_of_beq ‹((k : Int) == 4) = false›) (ne_of_beq ‹((k : Int) == 5) = false›)) h
        exact Tells.of (r1 := .tup [.agg (mxD ⟨(k : Int), x, y, z, 0, 0⟩), bl true]) (by rw [hitM_some hk hk5 hm]; rfl) (Tells.mk (DW.tupl (DWl.cons (DW.aggl (DWl.cons (DW.int rfl) (DWl.cons (DW.int rfl) (DWl.cons (DW.int rfl) (DWl.cons (DW.int rfl) (DWl.cons (DW.int rfl) (DWl.cons (DW.int rfl) DWl.nil))))))) (DWl.cons (DW.bool rfl) DWl.nil))))
      · have hk5 : k ≤ 5 := by have := of_decide_eq_true ‹decide ((k : Int) < 6) = true›; omega
        have hm := hitM_no (s := s) (l := [x, y, z, u, v]) (docMx_n (ne_of_beq ‹((k : Int) == 4) = false›) (ne_of_beq ‹((k : Int) == 5) = false›)) h
        refine Round.go (· + 1) (noHitM_next hk hk5 hm) (by show 6 - (k + 1) < 6 - k; omega) (Weak.list [(0, some 0), (1, some 1)] [] (by kernel_rfl) ?_ ?_)
        · repeat' (first | exact wsucc (n := 6) (by omega) (by omega) | exact DW.same _ rfl | exact DW.ref _ _ _ rfl | exact DW.arr _ _ _ rfl | exact OW.cells rfl rfl (DWl.same rfl) | refine OW.cells rfl rfl ?_ | refine DWl.cons ?_ ?_ | exact DWl.nil | exact DW.nilArr _ rfl | exact DW.nilLst _ | refine DW.clol ?_ ?_ | refine DW.aggl ?_ | refine DW.tupl ?_ | refine DW.int ?_ | refine DW.bool ?_ | refine DW.str ?_ | refine DW.arrE rfl ?_ | ((conv => whnf); first | refine And.intro ?_ ?_ | trivial))
        · repeat' (first | exact wsucc (n := 6) (by omega) (by omega) | exact DW.same _ rfl | exact DW.ref _ _ _ rfl | exact DW.arr _ _ _ rfl | exact OW.cells rfl rfl (DWl.same rfl) | refine OW.cells rfl rfl ?_ | refine DWl.cons ?_ ?_ | exact DWl.nil | exact DW.nilArr _ rfl | exact DW.nilLst _ | refine DW.clol ?_ ?_ | refine DW.aggl ?_ | refine DW.tupl ?_ | refine DW.int ?_ | refine DW.bool ?_ | refine DW.str ?_ | refine DW.arrE rfl ?_ | ((conv => whnf); first | refine And.intro ?_ ?_ | trivial))
      · have hk6 : k = 6 := by have := of_decide_eq_false h; have := hk.1.2; omega
        subst hk6
        exact Tells.of (r1 := .tup [.agg (mxD mx0), bl false]) (by rw [hitM_none hk]; rfl) (Tells.mk (DW.tupl (DWl.cons (DW.aggl (DWl.cons (DW.int rfl) (DWl.cons (DW.int rfl) (DWl.cons (DW.int rfl) (DWl.cons (DW.int rfl) (DWl.cons (DW.int rfl) (DWl.cons (DW.int rfl) DWl.nil))))))) (DWl.cons (DW.bool rfl) DWl.nil))))
end Go.Proofs.YtgaghkchdiepoaaDoor

/- What is written is read, by both in the same way: plain lists. -/
namespace Go.Proofs.YtgaghkchdiepoaaDoor
open Go.RowKit Go.Dl

theorem dig_val {d : Nat} (h : d < 10) : (UInt8.ofNat (48 + d)).toNat = 48 + d := by
  rw [UInt8.toNat_ofNat']; omega
theorem dec_rec {u : Nat} (h : ¬ u < 10) : Lib.decDigits u = Lib.decDigits (u / 10) ++ [UInt8.ofNat (48 + u % 10)] := by
  rw [Lib.decDigits, dif_neg h]
theorem dec_head (u : Nat) : ∃ c r, Lib.decDigits u = c :: r ∧ 48 ≤ c.toNat ∧ c.toNat ≤ 57 ∧ (c.toNat = 48 → u = 0 ∧ r = []) := by
  induction u using Nat.strongRecOn with
  | ind u ih =>
    by_cases h : u < 10
    · refine ⟨_, _, Lib.decDigits_one h, ?_⟩
      rw [dig_val h]
      exact ⟨by omega, by omega, fun e => ⟨by omega, rfl⟩⟩
    · obtain ⟨c, r, e, h1, h2, h3⟩ := ih (u / 10) (by omega)
      refine ⟨c, r ++ [UInt8.ofNat (48 + u % 10)], by rw [dec_rec h, e]; rfl, h1, h2, fun e => ?_⟩
      have := (h3 e).1
      omega
theorem dec_mem (u : Nat) : ∀ c ∈ Lib.decDigits u, 48 ≤ c.toNat ∧ c.toNat ≤ 57 := by
  induction u using Nat.strongRecOn with
  | ind u ih =>
    intro c hc
    by_cases h : u < 10
    · rw [Lib.decDigits_one h, List.mem_singleton] at hc
      subst hc
      rw [dig_val h]; omega
    · rw [dec_rec h] at hc
      rcases List.mem_append.1 hc with hc | hc
      · exact ih (u / 10) (by omega) c hc
      · rw [List.mem_singleton] at hc
        subst hc
        rw [dig_val (by omega)]; omega
theorem parse_dec (u : Nat) (r : List UInt8) (hu : u ≤ 18446744073709551615) : Lib.parseUintM 18446744073709551615 0 (Lib.decDigits u ++ r) = Lib.parseUintM 18446744073709551615 u r := by
  induction u using Nat.strongRecOn generalizing r with
  | ind u ih =>
    by_cases h : u < 10
    · rw [Lib.decDigits_one h, List.singleton_append, Lib.parseUintM, dig_val h, if_pos (by omega), if_neg (by omega), if_neg (by omega)]
      congr 1; omega
    · rw [dec_rec h, List.append_assoc, ih (u / 10) (by omega) _ (by omega), List.singleton_append, Lib.parseUintM, dig_val (by omega), if_pos (by omega), if_neg (by omega), if_neg (by omega)]
      congr 1; omega
theorem badD_no {n d : Int} (h1 : 0 ≤ d) (h2 : d ≤ 9) (h3 : -9223372036854775808 ≤ 10 * n - d) : badD n d = false := by
  unfold badD
  simp only [Bool.cond_true_left, Bool.cond_false_right, Bool.or_eq_false_iff, Bool.and_eq_false_imp, decide_eq_false_iff_not, beq_iff_eq]
  refine ⟨⟨⟨by omega, by omega⟩, by omega⟩, fun e => by omega⟩
theorem loop_dec (u : Nat) (r : List UInt8) (hu : u ≤ 9223372036854775808) : numLoop 0 (Lib.decDigits u ++ r) = numLoop (-(u : Int)) r := by
  induction u using Nat.strongRecOn generalizing r with
  | ind u ih =>
    by_cases h : u < 10
    · rw [Lib.decDigits_one h, List.singleton_append, numLoop, dig_val h, if_neg (by rw [badD_no (by omega) (by omega) (by omega)]; decide)]
      congr 1; omega
    · rw [dec_rec h, List.append_assoc, ih (u / 10) (by omega) _ (by omega), List.singleton_append, numLoop, dig_val (by omega), if_neg (by rw [badD_no (by omega) (by omega) (by omega)]; decide)]
      congr 1; omega
theorem num_dec (u : Nat) (hu : u ≤ 9223372036854775807) : numO (Lib.decDigits u) = some (u : Int) := by
  obtain ⟨c, r, e, h1, h2, h3⟩ := dec_head u
  have ha : numAt (Lib.decDigits u) = 0 := by
    rw [e]; unfold numAt
    refine if_neg fun hc => ?_
    have : c.toNat = 45 := hc.2
    omega
  have hl := loop_dec u [] (by omega)
  rw [List.append_nil, numLoop] at hl
  unfold numO
  rw [ha, List.drop_zero, hl, if_neg]
  · show (if (0 : Nat) = 1 then _ else if -(u : Int) = _ then _ else _) = _
    rw [if_neg (by decide), if_neg (by omega), Int.neg_neg]
  · rw [e]
    rintro (hc | ⟨hc, hd⟩)
    · cases hc
    · have : c.toNat = 48 := hc
      rw [(h3 this).2] at hd
      exact absurd hd (by simp)
theorem num_neg (u : Nat) (h1 : 1 ≤ u) (hu : u ≤ 9223372036854775808) : numO (45 :: Lib.decDigits u) = some (-(u : Int)) := by
  obtain ⟨c, r, e, h1, h2, h3⟩ := dec_head u
  have ha : numAt (45 :: Lib.decDigits u) = 1 := by
    unfold numAt
    exact if_pos ⟨Nat.succ_pos _, rfl⟩
  have hl := loop_dec u [] (by omega)
  rw [List.append_nil, numLoop] at hl
  unfold numO
  rw [ha, show (45 :: Lib.decDigits u).drop 1 = Lib.decDigits u from rfl, hl, if_neg]
  · exact if_pos rfl
  · rw [e]
    rintro (hc | ⟨hc, hd⟩)
    · simp at hc
    · have : c.toNat = 48 := hc
      have := (h3 this).1
      omega
theorem num_itoa (n : Int) (h0 : -9223372036854775808 ≤ n) (h1 : n ≤ 9223372036854775807) : numO (Lib.itoa n) = some n := by
  by_cases h : n < 0
  · have e := Lib.itoa_neg n.natAbs (by omega)
    rw [show -((n.natAbs : Nat) : Int) = n by omega] at e
    rw [e, num_neg _ (by omega) (by omega)]
    congr 1; omega
  · have e := Lib.itoa_nonneg n.toNat
    rw [show ((n.toNat : Nat) : Int) = n by omega] at e
    rw [e, num_dec _ (by omega)]
    congr 1; omega
theorem of_itoa (n : Int) (h0 : -9223372036854775808 ≤ n) (h1 : n ≤ 9223372036854775807) : atO (bs (Lib.itoa n)) = some n := by
  unfold atO
  rw [show (bs (Lib.itoa n)).data.toList = Lib.itoa n from rfl, ← Lib.parseIntB_64]
  by_cases h : n < 0
  · have e := Lib.itoa_neg n.natAbs (by omega)
    rw [show -((n.natAbs : Nat) : Int) = n by omega] at e
    obtain ⟨c, r, e2, _⟩ := dec_head n.natAbs
    have hp := parse_dec n.natAbs [] (by omega)
    rw [List.append_nil] at hp
    have hu : Lib.parseUintB 64 (Lib.decDigits n.natAbs) = .ok n.natAbs := by
      unfold Lib.parseUintB
      rw [if_neg (by rw [e2]; exact List.cons_ne_nil _ _)]
      exact hp
    have : Lib.parseIntB 64 (Lib.itoa n) = .ok n := by
      rw [e]
      unfold Lib.parseIntB
      show (match Lib.parseUintB 64 (if (45 : UInt8).toNat = 43 ∨ (45 : UInt8).toNat = 45 then Lib.decDigits n.natAbs else 45 :: Lib.decDigits n.natAbs) with
        | .syntax => Lib.NumEnd.syntax
        | .range => .range
        | .ok u => if ¬ (45 : UInt8).toNat = 45 ∧ 2 ^ (64 - 1) ≤ u then .range else if (45 : UInt8).toNat = 45 ∧ 2 ^ (64 - 1) < u then .range else .ok (if (45 : UInt8).toNat = 45 then -(u : Int) else u)) = _
      rw [if_pos (by decide), hu]
      show (if _ then Lib.NumEnd.range else if _ then Lib.NumEnd.range else Lib.NumEnd.ok (if (45 : UInt8).toNat = 45 then -((n.natAbs : Nat) : Int) else n.natAbs)) = _
      rw [if_neg (fun hc => hc.1 rfl), if_neg (fun hc => by omega), if_pos (show (45 : UInt8).toNat = 45 from rfl)]
      congr 1; omega
    rw [this]
  · have e := Lib.itoa_nonneg n.toNat
    rw [show ((n.toNat : Nat) : Int) = n by omega] at e
    obtain ⟨c, r, e2, g1, g2, _⟩ := dec_head n.toNat
    have hp := parse_dec n.toNat [] (by omega)
    rw [List.append_nil] at hp
    have hu : Lib.parseUintB 64 (Lib.decDigits n.toNat) = .ok n.toNat := by
      unfold Lib.parseUintB
      rw [if_neg (by rw [e2]; exact List.cons_ne_nil _ _)]
      exact hp
    have : Lib.parseIntB 64 (Lib.itoa n) = .ok n := by
      rw [e]
      rw [e2] at hu ⊢
      unfold Lib.parseIntB
      show (match Lib.parseUintB 64 (if c.toNat = 43 ∨ c.toNat = 45 then r else c :: r) with
        | .syntax => Lib.NumEnd.syntax
        | .range => .range
        | .ok u => if ¬ c.toNat = 45 ∧ 2 ^ (64 - 1) ≤ u then .range else if c.toNat = 45 ∧ 2 ^ (64 - 1) < u then .range else .ok (if c.toNat = 45 then -(u : Int) else u)) = _
      rw [if_neg (by omega), hu]
      show (if _ then Lib.NumEnd.range else if _ then Lib.NumEnd.range else Lib.NumEnd.ok (if c.toNat = 45 then -((n.toNat : Nat) : Int) else n.toNat)) = _
      rw [if_neg (fun hc => by omega), if_neg (fun hc => by omega), if_neg (by omega)]
      congr 1; omega
    rw [this]
theorem itoa_plain (n : Int) : (32 : UInt8) ∉ Lib.itoa n := by
  intro hc
  have hd : ∀ u : Nat, (32 : UInt8) ∉ Lib.decDigits u := fun u h => absurd (dec_mem u _ h).1 (by decide)
  unfold Lib.itoa at hc
  split at hc
  · rcases List.mem_cons.1 hc with h | h
    · exact absurd h (by decide)
    · exact hd _ h
  · exact hd _ hc
def joinW : List (List UInt8) → List UInt8
  | [] => []
  | [w] => w
  | w :: x :: t => w ++ 32 :: joinW (x :: t)
def Plain (ws : List (List UInt8)) : Prop := ∀ w ∈ ws, (32 : UInt8) ∉ w
theorem byte_miss {w : List UInt8} (h : (32 : UInt8) ∉ w) : Lib.indexByte w 32 = -1 := by
  induction w with
  | nil => rfl
  | cons b l ih =>
    have hb : ¬ (b == 32) = true := fun e => h (by rw [eq_of_beq e]; exact List.mem_cons_self)
    rw [Lib.indexByte, if_neg hb, ih (fun e => h (List.mem_cons_of_mem _ e))]; rfl
theorem byte_hit {w : List UInt8} (r : List UInt8) (h : (32 : UInt8) ∉ w) : Lib.indexByte (w ++ 32 :: r) 32 = w.length := by
  induction w with
  | nil => rfl
  | cons b l ih =>
    have hb : ¬ (b == 32) = true := fun e => h (by rw [eq_of_beq e]; exact List.mem_cons_self)
    rw [List.cons_append, Lib.indexByte, if_neg hb, ih (fun e => h (List.mem_cons_of_mem _ e)), if_neg (by rw [beq_iff_eq]; omega)]
    rw [List.length_cons]; omega
theorem splitK_miss {w : List UInt8} (k : Nat) (h : (32 : UInt8) ∉ w) : Lib.splitK [32] 0 k w = [w] := by
  cases k with
  | zero => rfl
  | succ k => rw [Lib.splitK, Lib.index_one, byte_miss h, if_pos (by decide)]
theorem splitK_hit {w : List UInt8} (k : Nat) (r : List UInt8) (h : (32 : UInt8) ∉ w) : Lib.splitK [32] 0 (k + 1) (w ++ 32 :: r) = w :: Lib.splitK [32] 0 k r := by
  rw [Lib.splitK, Lib.index_one, byte_hit r h, if_neg (by rw [beq_iff_eq]; omega)]
  congr 1
  · rw [Int.toNat_natCast, Nat.add_zero, List.take_left']; rfl
  · rw [Int.toNat_natCast, show w.length + [(32 : UInt8)].length = w.length + 1 from rfl]
    rw [show (w ++ 32 :: r) = (w ++ [32]) ++ r by simp, List.drop_left' (by simp)]
theorem split_join : ∀ (ws : List (List UInt8)), ws ≠ [] → Plain ws → Lib.splitK [32] 0 (Lib.count (joinW ws) [32]) (joinW ws) = ws
  | [], h, _ => absurd rfl h
  | [w], _, hp => splitK_miss _ (hp w List.mem_cons_self)
  | w :: x :: t, _, hp => by
    have hw := hp w List.mem_cons_self
    rw [joinW, Lib.count_one, List.count_append, List.count_cons_self, List.count_eq_zero.2 hw, Nat.zero_add, ← Lib.count_one, splitK_hit _ _ hw, split_join (x :: t) (List.cons_ne_nil _ _) (fun y hy => hp y (List.mem_cons_of_mem _ hy))]
theorem bs_data (x : ByteArray) : bs x.data.toList = x := by
  obtain ⟨d⟩ := x
  show ByteArray.mk d.toList.toArray = _
  rw [Array.toArray_toList]
theorem words_join {s : ByteArray} {ws : List (List UInt8)} (h : s.data.toList = joinW ws) (hne : ws ≠ []) (hp : Plain ws) : wordsB s = ws.map bs := by
  have e : (wordsB s).map (·.data.toList) = ws := by
    rw [wordsB, Lib.splitB_data]
    show Lib.splitK [32] 0 (Lib.count s.data.toList [32]) s.data.toList = ws
    rw [h, split_join ws hne hp]
  rw [← e, List.map_map]
  conv => lhs; rw [← List.map_id (wordsB s)]
  exact List.map_congr_left fun x _ => (bs_data x).symm
theorem doc_run {s : ByteArray} {p w r : List UInt8} {L : List Int} (h : s.data.toList = p ++ w ++ r) (hw : (32 : UInt8) ∉ w) (hd : docN s p.length = (p.length, L)) : ∀ k, k ≤ w.length → docN s (p.length + k) = (p.length, L)
  | 0, _ => hd
  | k + 1, hk => by
    have hs : s.size = s.data.toList.length := Array.length_toList.symm
    have h1 : p.length + k < s.size := by rw [hs, h]; simp; omega
    have h2 : byteAt s (p.length + k) ≠ 32 := by
      intro e
      have e2 : ((s.data.toList.getD (p.length + k) 0).toNat : Int) = 32 := e
      rw [h, List.append_assoc, List.getD_eq_getElem?_getD, List.getElem?_append_right (by omega), Nat.add_sub_cancel_left, List.getElem?_append_left (by omega), List.getElem?_eq_getElem (by omega)] at e2
      refine hw ?_
      rw [show (32 : UInt8) = w[k] from ?_]
      · exact List.getElem_mem _
      · have e3 : (w[k]).toNat = 32 := by
          have e4 : ((w[k].toNat : Nat) : Int) = 32 := by simpa using e2
          omega
        exact (UInt8.toNat_inj.1 e3).symm
    rw [show p.length + (k + 1) = (p.length + k) + 1 from rfl, docN, if_pos ⟨h1, h2⟩]
    exact doc_run h hw hd k (by omega)
theorem cut_word {s : ByteArray} {p w r : List UInt8} (h : s.data.toList = p ++ w ++ r) : (s.extract p.length (p.length + w.length)).data.toList = w := by
  rw [Lib.extract_data, h, List.append_assoc, List.drop_left' rfl, Nat.add_sub_cancel_left, List.take_left' rfl]
theorem doc_word {s : ByteArray} {p w r : List UInt8} {L : List Int} (h : s.data.toList = p ++ w ++ r) (hw : (32 : UInt8) ∉ w) (hd : docN s p.length = (p.length, L)) (hr : r = [] ∨ ∃ t, r = 32 :: t) :
    docN s (p.length + w.length + 1) = (p.length + w.length + 1, push5 L (numO w)) := by
  have hrun := doc_run h hw hd w.length (Nat.le_refl _)
  have hs : s.size = s.data.toList.length := Array.length_toList.symm
  have hstop : ¬ (p.length + w.length < s.size ∧ byteAt s (p.length + w.length) ≠ 32) := by
    rintro ⟨h1, h2⟩
    rcases hr with rfl | ⟨t, rfl⟩
    · rw [hs, h] at h1; simp at h1
    · refine h2 ?_
      show ((s.data.toList.getD (p.length + w.length) 0).toNat : Int) = 32
      rw [h, List.getD_eq_getElem?_getD, List.getElem?_append_right (by simp), List.length_append, Nat.sub_self]
      rfl
  rw [docN, if_neg hstop, hrun]
  show (p.length + w.length + 1, push5 L (numO (s.extract p.length (p.length + w.length)).data.toList)) = _
  rw [cut_word h]

theorem doc_join : ∀ (ws : List (List UInt8)) (s : ByteArray) (p : List UInt8) (L : List Int), ws ≠ [] → Plain ws → s.data.toList = p ++ joinW ws → docN s p.length = (p.length, L) → (docN s (s.size + 1)).2 = (ws.map numO).foldl push5 L
  | [], _, _, _, h, _, _, _ => absurd rfl h
  | [w], s, p, L, _, hp, h, hd => by
    have hs : s.size = s.data.toList.length := Array.length_toList.symm
    have := doc_word (r := []) (by rw [List.append_nil]; exact h) (hp w List.mem_cons_self) hd (Or.inl rfl)
    rw [hs, h, List.length_append, joinW, this]
    rfl
  | w :: x :: t, s, p, L, _, hp, h, hd => by
    have h' : s.data.toList = p ++ w ++ 32 :: joinW (x :: t) := by rw [h, joinW, List.append_assoc]
    have hw := doc_word h' (hp w List.mem_cons_self) hd (Or.inr ⟨_, rfl⟩)
    have := doc_join (x :: t) s (p ++ w ++ [32]) (push5 L (numO w)) (List.cons_ne_nil _ _) (fun y hy => hp y (List.mem_cons_of_mem _ hy)) (by rw [h']; simp) (by rw [List.length_append, List.length_append]; exact hw)
    rw [this]
    rfl
theorem app_data (x y : ByteArray) : (x ++ y).data.toList = x.data.toList ++ y.data.toList := by
  rw [ByteArray.data_append, Array.toList_append]
theorem num_data (n : Int) : (numB n).data.toList = Lib.itoa n := rfl
theorem add_data (s : ByteArray) (x : Int) : (addN s x).data.toList = s.data.toList ++ 32 :: Lib.itoa x := by
  unfold addN
  rw [app_data, app_data, num_data]; rfl
theorem join_fold : ∀ (l : List Int) (w : ByteArray), (l.foldl addN w).data.toList = joinW (w.data.toList :: l.map Lib.itoa)
  | [], w => rfl
  | [x], w => by
    show (addN w x).data.toList = _
    rw [add_data]; rfl
  | x :: y :: t, w => by
    show ((y :: t).foldl addN (addN w x)).data.toList = _
    rw [join_fold (y :: t) (addN w x), add_data]
    show (w.data.toList ++ 32 :: Lib.itoa x) ++ 32 :: joinW ((y :: t).map Lib.itoa) = w.data.toList ++ 32 :: (Lib.itoa x ++ 32 :: joinW ((y :: t).map Lib.itoa))
    simp
def wsM (m : Mx) : List (List UInt8) := (wordK m.kind).data.toList :: (lineN m).map Lib.itoa
theorem line_data (m : Mx) : (lineP m).data.toList = joinW (wsM m) := join_fold _ _
theorem word_kinds (k : Int) : wordK k = wDrop ∨ wordK k = wDouble ∨ wordK k = wDeliver ∨ wordK k = wSever ∨ wordK k = wCrash := by
  unfold wordK
  split
  · exact .inl rfl
  · split
    · exact .inr (.inl rfl)
    · split
      · exact .inr (.inr (.inl rfl))
      · split
        · exact .inr (.inr (.inr (.inl rfl)))
        · exact .inr (.inr (.inr (.inr rfl)))
theorem word_plain (k : Int) : (32 : UInt8) ∉ (wordK k).data.toList := by
  rcases word_kinds k with e | e | e | e | e <;> rw [e] <;> decide
theorem word_num (k : Int) : numO (wordK k).data.toList = none := by
  rcases word_kinds k with e | e | e | e | e <;> rw [e] <;> decide +kernel
theorem ws_plain (m : Mx) : Plain (wsM m) := by
  intro w hw
  rcases List.mem_cons.1 hw with rfl | hw
  · exact word_plain _
  · obtain ⟨x, -, rfl⟩ := List.mem_map.1 hw
    exact itoa_plain x
theorem line_words (m : Mx) : wordsB (lineP m) = (wsM m).map bs := words_join (line_data m) (List.cons_ne_nil _ _) (ws_plain m)
theorem line_ints {m : Mx} (h : EntP 16 m) : ∀ x ∈ lineN m, I64 x := by
  obtain ⟨h1, h2, h3, h4, h5⟩ := ent_i64 h
  intro x hx
  unfold lineN at hx
  split at hx
  · simp only [List.mem_cons, List.not_mem_nil, or_false] at hx
    rcases hx with rfl | rfl | rfl | rfl <;> assumption
  · split at hx
    · simp only [List.mem_cons, List.not_mem_nil, or_false] at hx
      rcases hx with rfl | rfl | rfl <;> assumption
    · simp only [List.mem_cons, List.not_mem_nil, or_false] at hx
      rcases hx with rfl | rfl | rfl <;> assumption
theorem ats_line : ∀ (l : List Int), (∀ x ∈ l, I64 x) → ((l.map Lib.itoa).map bs).mapM atO = some l
  | [], _ => rfl
  | x :: t, h => by
    have h1 := of_itoa x (h x List.mem_cons_self).1 (h x List.mem_cons_self).2
    have h2 := ats_line t (fun y hy => h y (List.mem_cons_of_mem _ hy))
    rw [List.map_cons, List.map_cons, List.mapM_cons, h1, h2]; rfl
theorem nums_line {m : Mx} (h : EntP 16 m) : numsK (lineP m) (wordsB (lineP m)).length = some (lineN m) := by
  unfold numsK
  rw [List.take_of_length_le (Nat.le_refl _), line_words]
  exact ats_line _ (line_ints h)
theorem kind_line {m : Mx} (h : EntP 16 m) : kindOf (lineP m) = m.kind := by
  unfold kindOf
  rw [line_words]
  show idxS (bs (wordK m.kind).data.toList) wds 0 = m.kind
  rw [bs_data]
  rcases ent_kind h with e | e | e | e | e <;> rw [e] <;> decide +kernel
theorem made_line {m : Mx} (h : EntP 16 m) : madeM m.kind (lineN m) = m := by
  obtain ⟨k, f, t, r, a, b⟩ := m
  obtain ⟨h1, h2, h3, h4, h5⟩ := h
  simp only at h1 h2 h3 h4 h5
  have hk : k = 1 ∨ k = 2 ∨ k = 3 ∨ k = 4 ∨ k = 5 := by omega
  unfold madeM lineN
  rcases hk with rfl | rfl | rfl | rfl | rfl
  · have : a = 0 ∧ b = 0 := by omega
    rw [this.1, this.2]; rfl
  · have : a = 0 ∧ b = 0 := by omega
    rw [this.1, this.2]; rfl
  · have : a = 0 ∧ b = 0 := by omega
    rw [this.1, this.2]; rfl
  · have : r = 0 := by omega
    rw [this]; rfl
  · have : r = 0 ∧ b = 0 := by omega
    rw [this.1, this.2]; rfl
theorem line_three (m : Mx) : 3 ≤ (lineN m).length := by
  unfold lineN
  split
  · exact (by decide : 3 ≤ 4)
  · split <;> exact Nat.le_refl 3
/-- What is written is read by the program. -/
theorem readP_line {m : Mx} (h : EntP 16 m) : readP (lineP m) = (m, true) := by
  have h1 := kind_line h
  have h2 := nums_line h
  have hk := ent_kind h
  have h3 := line_three m
  have h4 := made_line h
  rw [readP, h1, h2]
  unfold readK
  simp only
  rw [if_neg (by omega), h4, ent_iff.2 h]
  have : (lineP m == lineP m) = true := ba_eq.2 rfl
  rw [this]; rfl
theorem bif_and {a b : Bool} (h : (bif a then b else false) = true) : a = true ∧ b = true := by cases a <;> simp_all
theorem readK_some {s : ByteArray} {kd : Int} {l : List Int} (h : (readK s kd (some l)).2 = true) : EntP 16 (readK s kd (some l)).1 ∧ lineP (readK s kd (some l)).1 = s := by
  by_cases hc : kd < 1 ∨ l.length < 3
  · have e : readK s kd (some l) = (bad kd, false) := if_pos hc
    rw [e] at h; cases h
  · have e : readK s kd (some l) = (madeM kd l, bif entB 16 (madeM kd l) then lineP (madeM kd l) == s else false) := if_neg hc
    rw [e] at h ⊢
    have h2 := bif_and h
    exact ⟨ent_iff.1 h2.1, ba_eq.1 h2.2⟩
theorem readP_only {s : ByteArray} (h : (readP s).2 = true) : EntP 16 (readP s).1 ∧ lineP (readP s).1 = s := by
  unfold readP at h ⊢
  cases e : numsK s (wordsB s).length with
  | none => rw [e] at h; cases h
  | some l => rw [e] at h; exact readK_some h
theorem line_inj {a b : Mx} (ha : EntP 16 a) (hb : EntP 16 b) (h : lineP a = lineP b) : a = b := by
  have h1 := readP_line ha
  rw [h, readP_line hb] at h1
  exact (congrArg Prod.fst h1).symm
theorem hitM_fit {s : ByteArray} {l : List Int} {k : Int} {m : Mx} (h : hitM s l k = some m) : EntP 16 m ∧ lineP m = s := by
  unfold hitM at h
  split at h
  · rename_i hc
    cases h
    have h2 := bif_and hc
    exact ⟨ent_iff.1 h2.1, ba_eq.1 h2.2⟩
  · cases h
theorem docR_fit {s : ByteArray} {m : Mx} (h : docR s = some m) : EntP 16 m ∧ lineP m = s := by
  unfold docR at h
  obtain ⟨k, _, hk⟩ := List.exists_of_findSome?_eq_some h
  exact hitM_fit hk
theorem fold_push : ∀ (l L : List Int), (∀ x ∈ l, I64 x) → L.length + l.length ≤ 5 → ((l.map Lib.itoa).map numO).foldl push5 L = L ++ l
  | [], L, _, _ => (List.append_nil L).symm
  | x :: t, L, h, hl => by
    have h1 := num_itoa x (h x List.mem_cons_self).1 (h x List.mem_cons_self).2
    rw [List.length_cons] at hl
    show ((t.map Lib.itoa).map numO).foldl push5 (push5 L (numO (Lib.itoa x))) = _
    rw [h1, show push5 L (some x) = L ++ [x] from if_pos (by omega), fold_push t (L ++ [x]) (fun y hy => h y (List.mem_cons_of_mem _ hy)) (by rw [List.length_append, List.length_singleton]; omega), List.append_assoc]; rfl
theorem line_four (m : Mx) : (lineN m).length ≤ 4 := by
  unfold lineN
  split
  · exact Nat.le_refl 4
  · split <;> exact (by decide : 3 ≤ 4)
theorem doc_line {m : Mx} (h : EntP 16 m) : (docN (lineP m) ((lineP m).size + 1)).2 = lineN m := by
  have := doc_join (wsM m) (lineP m) [] [] (List.cons_ne_nil _ _) (ws_plain m) (by rw [line_data m]; rfl) rfl
  rw [this]
  show (((lineN m).map Lib.itoa).map numO).foldl push5 (push5 [] (numO (wordK m.kind).data.toList)) = _
  rw [word_num]
  exact fold_push (lineN m) [] (line_ints h) (by have := line_four m; simp only [List.length_nil]; omega)
theorem docMx_line {m : Mx} (h : EntP 16 m) : docMx m.kind (pad5 (lineN m)) = m := by
  obtain ⟨k, f, t, r, a, b⟩ := m
  obtain ⟨h1, h2, h3, h4, h5⟩ := h
  simp only at h1 h2 h3 h4 h5
  have hk : k = 1 ∨ k = 2 ∨ k = 3 ∨ k = 4 ∨ k = 5 := by omega
  unfold docMx lineN
  rcases hk with rfl | rfl | rfl | rfl | rfl
  · have : a = 0 ∧ b = 0 := by omega
    rw [this.1, this.2]; rfl
  · have : a = 0 ∧ b = 0 := by omega
    rw [this.1, this.2]; rfl
  · have : a = 0 ∧ b = 0 := by omega
    rw [this.1, this.2]; rfl
  · have : r = 0 := by omega
    rw [this]; rfl
  · have : r = 0 ∧ b = 0 := by omega
    rw [this.1, this.2]; rfl
/-- What is written is read by the document. -/
theorem docR_line {m : Mx} (h : EntP 16 m) : docR (lineP m) = some m := by
  have h1 : hitM (lineP m) (pad5 (lineN m)) m.kind = some m := by
    have : (lineP m == lineP m) = true := ba_eq.2 rfl
    rw [hitM, docMx_line h, ent_iff.2 h, this]; rfl
  have hm : m.kind ∈ ([1, 2, 3, 4, 5] : List Int) := by
    rcases ent_kind h with e | e | e | e | e <;> rw [e] <;> decide
  have h2 : (docR (lineP m)).isSome = true := by
    unfold docR
    rw [doc_line h]
    exact List.findSome?_isSome_iff.2 ⟨m.kind, hm, by rw [h1]; rfl⟩
  obtain ⟨b, hb⟩ := Option.isSome_iff_exists.1 h2
  obtain ⟨hb1, hb2⟩ := docR_fit hb
  rw [hb, line_inj hb1 h hb2]
/-- Both read the same. -/
theorem read_good {s : ByteArray} (h : (readP s).2 = true) : docR s = some (readP s).1 := by
  obtain ⟨h1, h2⟩ := readP_only h
  conv => lhs; rw [← h2]
  exact docR_line h1
theorem read_bad {s : ByteArray} (h : (readP s).2 = false) : docR s = none := by
  cases e : docR s with
  | none => rfl
  | some m =>
    obtain ⟨h1, h2⟩ := docR_fit e
    rw [← h2, readP_line h1] at h
    cases h
theorem res_good {s : ByteArray} (h : (readP s).2 = true) : resM (docR s) = readP s := by
  rw [read_good h]
  show ((readP s).1, true) = readP s
  rw [← h]
theorem res_bad {s : ByteArray} (h : (readP s).2 = false) : (resM (docR s)).2 = false := by
  rw [read_bad h]; rfl
theorem res_two (s : ByteArray) : (resM (docR s)).2 = (readP s).2 := by
  cases e : (readP s).2
  · exact res_bad e
  · rw [res_good e]; exact e
end Go.Proofs.YtgaghkchdiepoaaDoor

/- The document's Parse: where the lines end; what it computes. -/
namespace Go.Proofs.YtgaghkchdiepoaaDoor
open Go.RowKit Go.Dl
theorem nl_miss {w : List UInt8} (h : (10 : UInt8) ∉ w) : Lib.indexByte w 10 = -1 := by
  induction w with
  | nil => rfl
  | cons b l ih =>
    have hb : ¬ (b == 10) = true := fun e => h (by rw [eq_of_beq e]; exact List.mem_cons_self)
    rw [Lib.indexByte, if_neg hb, ih (fun e => h (List.mem_cons_of_mem _ e))]; rfl
theorem nl_hit {w : List UInt8} (r : List UInt8) (h : (10 : UInt8) ∉ w) : Lib.indexByte (w ++ 10 :: r) 10 = w.length := by
  induction w with
  | nil => rfl
  | cons b l ih =>
    have hb : ¬ (b == 10) = true := fun e => h (by rw [eq_of_beq e]; exact List.mem_cons_self)
    rw [List.cons_append, Lib.indexByte, if_neg hb, ih (fun e => h (List.mem_cons_of_mem _ e)), if_neg (by rw [beq_iff_eq]; omega)]
    rw [List.length_cons]; omega
theorem cut_miss {l : List UInt8} (h : (10 : UInt8) ∉ l) : Lib.cut l [10] = (l, [], false) := by
  unfold Lib.cut
  rw [Lib.index_one, nl_miss h, if_neg (by decide)]
theorem cut_hit {p : List UInt8} (r : List UInt8) (h : (10 : UInt8) ∉ p) : Lib.cut (p ++ 10 :: r) [10] = (p, r, true) := by
  unfold Lib.cut
  rw [Lib.index_one, nl_hit r h, if_pos (by omega), Int.toNat_natCast, List.take_left' rfl, show p ++ 10 :: r = (p ++ [10]) ++ r by simp, List.drop_left' (by simp)]
def tailT (t : ByteArray) (a : Nat) : ByteArray := t.extract a t.size
def Scan (t : ByteArray) (a e : Nat) : Prop := a ≤ e ∧ e ≤ t.size ∧ ∀ j, a ≤ j → j < e → byteAt t j ≠ 10
theorem scan_tail {t : ByteArray} {a e : Nat} (h : Scan t a e) : (tailT t a).data.toList = (t.extract a e).data.toList ++ (tailT t e).data.toList := by
  have hs := ba_len t
  obtain ⟨h1, h2, -⟩ := h
  unfold tailT
  rw [Lib.extract_data, Lib.extract_data, Lib.extract_data, List.take_of_length_le (by rw [List.length_drop]; omega), List.take_of_length_le (l := t.data.toList.drop e) (by rw [List.length_drop]; omega)]
  conv => lhs; rw [← List.take_append_drop (e - a) (t.data.toList.drop a), List.drop_drop, show a + (e - a) = e by omega]
theorem scan_plain {t : ByteArray} {a e : Nat} (h : Scan t a e) : (10 : UInt8) ∉ (t.extract a e).data.toList := by
  intro hm
  have hs := ba_len t
  obtain ⟨h1, h2, h3⟩ := h
  rw [Lib.extract_data] at hm
  obtain ⟨k, hk, e2⟩ := List.mem_iff_getElem.1 hm
  rw [List.length_take, List.length_drop] at hk
  refine h3 (a + k) (by omega) (by omega) ?_
  rw [byte_at, List.getD_eq_getElem?_getD, List.getElem?_eq_getElem (by omega)]
  rw [List.getElem_take, List.getElem_drop] at e2
  show ((t.data.toList[a + k].toNat : Nat) : Int) = 10
  rw [e2]; rfl
theorem tail_end (t : ByteArray) : tailT t t.size = ByteArray.empty := by
  refine ba_nil ?_
  unfold tailT
  rw [ByteArray.size_extract]; omega
theorem tail_size {t : ByteArray} {a : Nat} : (tailT t a).size = t.size - a := by
  unfold tailT
  rw [ByteArray.size_extract]; omega
theorem tail_ne {t : ByteArray} {a : Nat} (h : a < t.size) : tailT t a ≠ ByteArray.empty := fun e => by
  have := tail_size (t := t) (a := a)
  rw [e] at this
  have h0 : ByteArray.empty.size = 0 := rfl
  omega
theorem tail_zero (t : ByteArray) : tailT t 0 = t := by
  rw [← bs_data (tailT t 0)]
  have : (tailT t 0).data.toList = t.data.toList := by
    have hs := ba_len t
    unfold tailT
    rw [Lib.extract_data, List.drop_zero, List.take_of_length_le (by omega)]
  rw [this, bs_data]
theorem tail_cons {t : ByteArray} {e : Nat} (h : e < t.size) (h10 : byteAt t e = 10) : (tailT t e).data.toList = 10 :: (tailT t (e + 1)).data.toList := by
  have hs := ba_len t
  unfold tailT
  rw [Lib.extract_data, Lib.extract_data, List.take_of_length_le (by rw [List.length_drop]; omega), List.take_of_length_le (by rw [List.length_drop]; omega), List.drop_eq_getElem_cons (by omega)]
  rw [byte_at, List.getD_eq_getElem?_getD, List.getElem?_eq_getElem (by omega)] at h10
  have e3 : (t.data.toList[e]).toNat = 10 := by
    have e4 : ((t.data.toList[e].toNat : Nat) : Int) = 10 := by simpa using h10
    omega
  rw [show t.data.toList[e] = 10 from UInt8.toNat_inj.1 e3]
theorem scan_end {t : ByteArray} {a : Nat} (h : Scan t a t.size) : lineOf (tailT t a) = t.extract a t.size ∧ endOf (tailT t a) = false := by
  have h1 := scan_tail h
  have h2 := scan_plain h
  rw [tail_end, show ByteArray.empty.data.toList = [] from rfl, List.append_nil] at h1
  unfold lineOf endOf
  rw [h1, cut_miss h2]
  exact ⟨bs_data _, rfl⟩
theorem scan_stop {t : ByteArray} {a e : Nat} (h : Scan t a e) (hlt : e < t.size) (h10 : byteAt t e = 10) : lineOf (tailT t a) = t.extract a e ∧ endOf (tailT t a) = true ∧ restOf (tailT t a) = tailT t (e + 1) := by
  have h1 := scan_tail h
  have h2 := scan_plain h
  rw [tail_cons hlt h10] at h1
  unfold lineOf endOf restOf
  rw [h1, cut_hit _ h2]
  exact ⟨bs_data _, rfl, bs_data _⟩
theorem scan_next {t : ByteArray} {a e : Nat} (h : Scan t a e) (hlt : e < t.size) (h10 : byteAt t e ≠ 10) : Scan t a (e + 1) := by
  refine ⟨by have := h.1; omega, hlt, fun j h1 h2 => ?_⟩
  by_cases hj : j = e
  · subst hj; exact h10
  · exact h.2.2 j h1 (by omega)
theorem scan_at {t : ByteArray} {a : Nat} (h : a ≤ t.size) : Scan t a a := ⟨Nat.le_refl _, h, fun j h1 h2 => by omega⟩
def PdI (t : ByteArray) (i : Nat × Nat × List Mx) : Prop := i.2.1 ≤ t.size ∧ t.size - i.2.1 < i.1 ∧ i.2.2.length ≤ 32 ∧ parseN i.1 (tailT t i.2.1) i.2.2 = parseT t
theorem pd_zero (t : ByteArray) : PdI t (t.size + 1, 0, []) := ⟨Nat.zero_le _, by show t.size - 0 < t.size + 1; omega, Nat.zero_le _, by show parseN (t.size + 1) (tailT t 0) [] = _; rw [tail_zero]; rfl⟩
theorem pd_end {t : ByteArray} {i : Nat × Nat × List Mx} (hi : PdI t i) (h : t.size ≤ i.2.1) : parseT t = (i.2.2, 0, 0) := by
  obtain ⟨h1, h2, h3, h4⟩ := hi
  rw [← h4, par_end (by rw [tail_size]; exact h2) (ba_nil (by rw [tail_size]; omega))]
theorem pd_full {t : ByteArray} {i : Nat × Nat × List Mx} (hi : PdI t i) (h : i.2.1 < t.size) (hf : i.2.2.length = 32) : parseT t = ([], ((i.2.2.length + 1 : Nat) : Int), 30) := by
  obtain ⟨h1, h2, h3, h4⟩ := hi
  rw [← h4, par_full (by rw [tail_size]; exact h2) (tail_ne h) (by omega)]
theorem pd_bad {t : ByteArray} {i : Nat × Nat × List Mx} {e : Nat} (hi : PdI t i) (h : i.2.1 < t.size) (hf : ¬ i.2.2.length = 32) (he : Scan t i.2.1 e) (hstop : e = t.size ∨ byteAt t e = 10)
    (hb : (resM (docR (t.extract i.2.1 e))).2 = false ∨ e = t.size) : parseT t = ([], ((i.2.2.length + 1 : Nat) : Int), 20) := by
  obtain ⟨h1, h2, h3, h4⟩ := hi
  rw [← h4, par_bad (by rw [tail_size]; exact h2) (tail_ne h) (by omega) ?_]
  rintro ⟨g1, g2⟩
  by_cases hz : e = t.size
  · subst hz
    rw [(scan_end he).2] at g2; cases g2
  · rw [res_two] at hb
    have hlt : e < t.size := Nat.lt_of_le_of_ne he.2.1 hz
    rw [(scan_stop he hlt (by rcases hstop with h | h; exact absurd h hz; exact h)).1] at g1
    rcases hb with hb | hb
    · rw [hb] at g1; cases g1
    · exact hz hb
theorem pd_next {t : ByteArray} {i : Nat × Nat × List Mx} {e : Nat} (hi : PdI t i) (h : i.2.1 < t.size) (hf : ¬ i.2.2.length = 32) (he : Scan t i.2.1 e) (hlt : e < t.size) (h10 : byteAt t e = 10)
    (hb : (resM (docR (t.extract i.2.1 e))).2 = true) : PdI t (i.1 - 1, e + 1, i.2.2 ++ [(resM (docR (t.extract i.2.1 e))).1]) ∧ i.1 - 1 < i.1 := by
  obtain ⟨h1, h2, h3, h4⟩ := hi
  obtain ⟨g1, g2, g3⟩ := scan_stop he hlt h10
  rw [res_two] at hb
  have e1 := res_good hb
  have := he.1
  refine ⟨⟨hlt, ?_, ?_, ?_⟩, ?_⟩
  · show t.size - (e + 1) < i.1 - 1; omega
  · show (i.2.2 ++ [_]).length ≤ 32
    rw [List.length_append, List.length_singleton]; omega
  · show parseN (i.1 - 1) (tailT t (e + 1)) (i.2.2 ++ [_]) = _
    rw [e1, ← h4, par_next (by rw [tail_size]; exact h2) (tail_ne h) (by omega) ⟨by rw [g1]; exact hb, g2⟩, g1, g3]
  · show i.1 - 1 < i.1; omega
end Go.Proofs.YtgaghkchdiepoaaDoor

/- A plan that is written is read: plain lists. -/
namespace Go.Proofs.YtgaghkchdiepoaaDoor
open Go.RowKit Go.Dl
theorem itoa_one (n : Int) : (10 : UInt8) ∉ Lib.itoa n := by
  intro hc
  have hd : ∀ u : Nat, (10 : UInt8) ∉ Lib.decDigits u := fun u h => absurd (dec_mem u _ h).1 (by decide)
  unfold Lib.itoa at hc
  split at hc
  · rcases List.mem_cons.1 hc with h | h
    · exact absurd h (by decide)
    · exact hd _ h
  · exact hd _ hc
theorem word_one (k : Int) : (10 : UInt8) ∉ (wordK k).data.toList := by
  rcases word_kinds k with e | e | e | e | e <;> rw [e] <;> decide
theorem join_one : ∀ (ws : List (List UInt8)), (∀ w ∈ ws, (10 : UInt8) ∉ w) → (10 : UInt8) ∉ joinW ws
  | [], _ => List.not_mem_nil
  | [w], h => h w List.mem_cons_self
  | w :: x :: t, h => by
    intro hm
    rw [joinW] at hm
    rcases List.mem_append.1 hm with hm | hm
    · exact h w List.mem_cons_self hm
    · rcases List.mem_cons.1 hm with hm | hm
      · exact absurd hm (by decide)
      · exact join_one (x :: t) (fun y hy => h y (List.mem_cons_of_mem _ hy)) hm
theorem line_one (m : Mx) : (10 : UInt8) ∉ (lineP m).data.toList := by
  rw [line_data]
  refine join_one _ fun w hw => ?_
  rcases List.mem_cons.1 hw with rfl | hw
  · exact word_one _
  · obtain ⟨x, -, rfl⟩ := List.mem_map.1 hw
    exact itoa_one x
def flatL (l : List Mx) : List UInt8 := (l.map fun m => (lineP m).data.toList ++ [10]).flatten
theorem fold_data (l : List Mx) : ∀ s : ByteArray, (l.foldl addL s).data.toList = s.data.toList ++ flatL l := by
  induction l with
  | nil => intro s; exact (List.append_nil _).symm
  | cons m l ih =>
    intro s
    show (l.foldl addL (addL s m)).data.toList = _
    rw [ih]
    unfold addL
    rw [app_data, app_data, List.append_assoc]
    rfl
theorem text_data (l : List Mx) : (textF l).data.toList = flatL l := by rw [textF, fold_data]; rfl
theorem parse_lines : ∀ (l : List Mx) (n : Nat) (t : ByteArray) (out : List Mx), t.data.toList = flatL l → (∀ m ∈ l, EntP 16 m) → out.length + l.length ≤ 32 → t.size < n → parseN n t out = (out ++ l, 0, 0)
  | [], n, t, out, h, _, _, hn => by
    have : t = ByteArray.empty := ba_nil (by rw [← ba_len, h]; rfl)
    rw [par_end hn this, List.append_nil]
  | m :: l, n, t, out, h, hl, ho, hn => by
    have hd : t.data.toList = (lineP m).data.toList ++ 10 :: flatL l := by
      rw [h]
      show ((lineP m).data.toList ++ [10]) ++ flatL l = _
      simp
    have hc := cut_hit (flatL l) (line_one m)
    have h1 : lineOf t = lineP m := by unfold lineOf; rw [hd, hc]; exact bs_data _
    have h2 : endOf t = true := by unfold endOf; rw [hd, hc]
    have h3 : (restOf t).data.toList = flatL l := by unfold restOf; rw [hd, hc]; rfl
    have hr := readP_line (hl m List.mem_cons_self)
    have hne : t ≠ ByteArray.empty := fun e => by
      rw [e] at hd
      have := congrArg List.length hd
      rw [List.length_append, List.length_cons] at this
      have h0 : ByteArray.empty.data.toList.length = 0 := rfl
      omega
    have hs := rest_size hne
    rw [List.length_cons] at ho
    rw [par_next hn hne (by omega) ⟨by rw [h1, hr], h2⟩, h1, hr, parse_lines l (n - 1) (restOf t) (out ++ [m]) h3 (fun x hx => hl x (List.mem_cons_of_mem _ hx)) (by rw [List.length_append, List.length_singleton]; omega) (by omega), List.append_assoc]
    rfl
theorem ent_mem {l : List Mx} (h : FitP 16 l) : ∀ m ∈ l, EntP 16 m := fun m hm => by
  obtain ⟨i, hi, e⟩ := List.mem_iff_getElem.1 hm
  have := h.2.2.2 i hi
  rw [List.getD_eq_getElem?_getD, List.getElem?_eq_getElem hi] at this
  rw [← e]; exact this
theorem parse_text {l : List Mx} (h : FitP 16 l) : parseT (textT l) = (l, 0, 0) := by
  have h1 : textT l = textF l := by rw [textT, if_pos (show fitB 16 l = true from decide_eq_true h)]
  rw [h1]
  exact parse_lines l _ _ [] (text_data l) (ent_mem h) (by have := h.2.2.1; simp only [List.length_nil]; omega) (Nat.lt_succ_self _)
theorem text_small (l : List Mx) : (textT l).size < 4294967281 := by
  unfold textT
  split
  · rename_i h
    have hf : FitP 16 l := of_decide_eq_true h
    have h2 := text_sz hf l.length (Nat.le_refl _)
    rw [List.take_of_length_le (Nat.le_refl _)] at h2
    have := hf.2.2.1
    omega
  · decide
end Go.Proofs.YtgaghkchdiepoaaDoor

/- A plan read, by the document. -/
namespace Go.Proofs.YtgaghkchdiepoaaDoor
open Go.RowKit Go.Dl
attribute [local irreducible] Tri SCall TSem ECall Drawn DFun QSem PSem PCall GCall MCall Round Weak dloadE OW DWl Tells IntKind.wrap Retold ESem
def pd19 (t : ByteArray) (i : Nat × Nat × List Mx) : St := ⟨0, tmOf [(0, strV t), (5, .arr 0 i.2.2.length), (6, int1 i.2.2.length), (7, int1 i.2.1)], .of [(0, ⟨50, 6, rowM i.2.2⟩)] 1⟩
def sc19 (t : ByteArray) (i : Nat × Nat × List Mx) (e : Nat) : St := ⟨0, tmOf [(0, strV t), (5, .arr 0 i.2.2.length), (6, int1 (i.2.2.length + 1 : Nat)), (7, int1 i.2.1), (8, int1 e)], .of [(0, ⟨50, 6, rowM i.2.2⟩)] 1⟩
theorem pd_len {t : ByteArray} {i : Nat × Nat × List Mx} (hi : PdI t i) : i.2.2.length ≤ 32 := hi.2.2.1
theorem scan_go {t : ByteArray} {e : Nat} (h : (bif decide ((e : Int) < (t.size : Int)) then byteAt t ((e : Nat) : Int).toNat != 10 else false) = true) : e < t.size ∧ byteAt t e ≠ 10 := by
  rw [Int.toNat_natCast] at h
  simp only [Bool.cond_false_right, Bool.and_eq_true, decide_eq_true_eq, bne_iff_ne, ne_eq] at h
  exact ⟨by omega, h.2⟩
theorem scan_no {t : ByteArray} {a e : Nat} (he : Scan t a e) (h : (bif decide ((e : Int) < (t.size : Int)) then byteAt t ((e : Nat) : Int).toNat != 10 else false) = false) : e = t.size ∨ byteAt t e = 10 := by
  rw [Int.toNat_natCast] at h
  simp only [Bool.cond_false_right, Bool.and_eq_false_imp, decide_eq_true_eq, bne_eq_false_iff_eq] at h
  have := he.2.1
  by_cases hz : e = t.size
  · exact .inl hz
  · exact .inr (h (by omega))
theorem bad_of {t : ByteArray} {a e : Nat} (h : (bif !(resM (docR (t.extract a e))).2 then true else (e : Int) == (t.size : Int)) = true) : (resM (docR (t.extract a e))).2 = false ∨ e = t.size := by
  cases e1 : (resM (docR (t.extract a e))).2
  · exact .inl rfl
  · rw [e1] at h
    have h : ((e : Int) == (t.size : Int)) = true := h
    have := eq_of_beq h
    exact .inr (by omega)
theorem good_of {t : ByteArray} {a e : Nat} (h : (bif !(resM (docR (t.extract a e))).2 then true else (e : Int) == (t.size : Int)) = false) : (resM (docR (t.extract a e))).2 = true ∧ e ≠ t.size := by
  cases e1 : (resM (docR (t.extract a e))).2
  · rw [e1] at h; cases h
  · rw [e1] at h
    have h : ((e : Int) == (t.size : Int)) = false := h
    exact ⟨rfl, fun hc => by rw [hc] at h; simp at h⟩
theorem scan_le {t : ByteArray} {a e : Nat} (he : Scan t a e) : a ≤ e ∧ e ≤ t.size := ⟨he.1, he.2.1⟩
theorem ext_sz {t : ByteArray} {a e : Nat} (ht : t.size < 4294967281) : (t.extract a e).size < 4294967281 := by rw [ByteArray.size_extract]; omega
attribute [local irreducible] docR lineOf restOf endOf parseN rowM PdI Scan byteAt
set_option maxRecDepth 20000 in
set_option maxHeartbeats 1000000 in
theorem docParse19_D (t : ByteArray) (ht : t.size < 4294967281) : DPure Tryd.prog 19 [strV t] (.tup [mxs (parseT t).1, int1 (parseT t).2.1, int1 (parseT t).2.2]) := by
  refine DFun.data (DFun.body Tryd.func19 rfl (by kernel_rfl) ?_)
  repeat' (first | with_reducible rfl | ((conv => whnf); first | refine And.intro ?_ ?_ | (intro h; first | with_reducible exact tf_no h | with_reducible exact ft_no h | exact Bool.noConfusion h | with_reducible exact h | (have ht : true = true := h; clear ht h) | skip) | ((with_reducible refine DWl.mark ?_); repeat' (first | refine DWl.cons ?_ ?_ | exact DWl.nil | exact DW.same _ rfl | exact DW.ref _ _ _ rfl | exact DW.arr _ _ _ rfl | exact DW.sub _ _ _ _ rfl | exact DW.nilLst _ | refine DW.aggl ?_ | refine DW.tupl ?_ | refine DW.clol ?_ ?_ | refine DW.int ?_ | refine DW.bool ?_ | refine DW.str ?_)) | ((with_reducible refine Tri.mark ?_); first | (refine Tri.at (7) (int1 0) (by rfl) ?_; refine Tri.loop (pd19 t) (PdI t) (fun i => i.1) ((t.size + 1, 0, [])) (by kernel_rfl) (Weak.list [(0, none)] [] ?_ ?_ ?_) ?_ ?_)) | ((with_reducible refine ECall.mark ?_); first | refine ECall.only ?_ (fun h => nomatch h) | refine ECall.only ?_ ?_) | ((with_reducible refine Drawn.mark ?_); first | refine Drawn.quiet (by kernel_rfl) ?_) | refine dcell_ok rfl ?_ | refine AppC.new ?_))
  all_goals first | (with_reducible refine enters_mark ?_; kernel_rfl) | (with_reducible refine boolT_mark ?_; kernel_rfl) | rfl | trivial | assumption | exact Nat.le_of_ble_eq_true rfl | (show entersB _ _ = true; kernel_rfl) | exact DW.same _ rfl | exact DW.ref _ _ _ rfl | exact DW.arr _ _ _ rfl | refine DW.int ?_ | refine dvb ?_ | refine dvi ?_ | exact OW.cells rfl rfl (DWl.same rfl) | exact Nat.zero_le _ | omega | skip
  all_goals repeat' (first | refine OW.cells rfl rfl ?_ | exact DW.nilArr _ rfl | refine DWl.cons ?_ ?_ | exact DWl.nil | exact DW.same _ rfl | exact DW.ref _ _ _ rfl | exact DW.arr _ _ _ rfl | exact DW.sub _ _ _ _ rfl | exact DW.nilLst _ | refine DW.aggl ?_ | refine DW.tupl ?_ | refine DW.clol ?_ ?_)
  all_goals try ((conv => whnf); with_reducible first | refine Round.mark ?_ | refine Tells.mark ?_ | refine Retold.mark ?_)
  all_goals try first | (show (_ : Bool) = _; simp_all; done) | (show (_ : Int) < _; simp at *; omega) | (show (_ : Int) ≤ _; simp at *; omega) | (show (_ : Nat) < _; simp at *; omega) | (show (_ : Nat) ≤ _; simp at *; omega)
  · conv => whnf
    exact rowM_nil
  · exact pd_zero t
  · rename_i i hi e0
    have hlt : i.2.1 < t.size := by have := of_decide_eq_true e0; omega
    have h32 : i.2.2.length = 32 := by have := eq_of_beq h; omega
    conv => whnf
    exact Tells.of (r1 := .tup [mxs [], int1 (i.2.2.length + 1 : Nat), int1 30]) (by rw [pd_full hi hlt h32]) (Tells.mk (DW.tupl (DWl.cons (DW.nilLst _) (DWl.cons (DW.int (wsucc (n := 100) (by omega) (by omega))) (DWl.cons (DW.int rfl) DWl.nil)))))
  · rename_i i hi e0
    have hlt : i.2.1 < t.size := by have := of_decide_eq_true e0; omega
    have h32 : ¬ i.2.2.length = 32 := fun e => by rw [e] at h; cases h
    have hl32 := pd_len hi
    clear h e0
    conv => whnf
    refine Tri.at 8 (int1 i.2.1) (by rfl) ?_
    refine Tri.loop (sc19 t i) (Scan t i.2.1) (fun e => t.size - e) i.2.1 (by kernel_rfl) (Weak.list [(0, some 0)] [] (by kernel_rfl) ?_ ?_) (scan_at (Nat.le_of_lt hlt)) ?_
    · repeat' (first | exact wsucc (n := 100) (by omega) (by omega) | exact OW.cells rfl rfl (DWl.same (rowM_all _)) | exact DW.same _ rfl | exact DW.ref _ _ _ rfl | exact DW.arr _ _ _ rfl | exact OW.cells rfl rfl (DWl.same rfl) | refine OW.cells rfl rfl ?_ | refine DWl.cons ?_ ?_ | exact DWl.nil | exact DW.nilArr _ rfl | exact DW.nilLst _ | refine DW.clol ?_ ?_ | refine DW.aggl ?_ | refine DW.tupl ?_ | refine DW.int ?_ | refine DW.bool ?_ | refine DW.str ?_ | refine DW.arrE rfl ?_ | ((conv => whnf); first | refine And.intro ?_ ?_ | trivial))
    · repeat' (first | exact wsucc (n := 100) (by omega) (by omega) | exact OW.cells rfl rfl (DWl.same (rowM_all _)) | exact DW.same _ rfl | exact DW.ref _ _ _ rfl | exact DW.arr _ _ _ rfl | exact OW.cells rfl rfl (DWl.same rfl) | refine OW.cells rfl rfl ?_ | refine DWl.cons ?_ ?_ | exact DWl.nil | exact DW.nilArr _ rfl | exact DW.nilLst _ | refine DW.clol ?_ ?_ | refine DW.aggl ?_ | refine DW.tupl ?_ | refine DW.int ?_ | refine DW.bool ?_ | refine DW.str ?_ | refine DW.arrE rfl ?_ | ((conv => whnf); first | refine And.intro ?_ ?_ | trivial))
    intro e he
    repeat' (first | with_reducible rfl | ((conv => whnf); first | refine And.intro ?_ ?_ | (intro h; first | with_reducible exact tf_no h | with_reducible exact ft_no h | exact Bool.noConfusion h | with_reducible exact h | (have ht : true = true := h; clear ht h) | skip) | ((with_reducible refine DWl.mark ?_); repeat' (first | refine DWl.cons ?_ ?_ | exact DWl.nil | exact DW.same _ rfl | exact DW.ref _ _ _ rfl | exact DW.arr _ _ _ rfl | exact DW.sub _ _ _ _ rfl | exact DW.nilLst _ | refine DW.aggl ?_ | refine DW.tupl ?_ | refine DW.clol ?_ ?_ | refine DW.int ?_ | refine DW.bool ?_ | refine DW.str ?_)) | ((with_reducible refine SCall.mark ?_); first | refine SCall.data (read38_D (t.extract i.2.1 e) ?_) rfl rfl ?_ | refine SCall.scal (read38_D (t.extract i.2.1 e) ?_) rfl rfl ?_) | ((with_reducible refine PCall.mark ?_); first | refine PCall.mk (read38_D (t.extract i.2.1 e) ?_) rfl rfl ?_) | ((with_reducible refine GCall.mark ?_); first | refine GCall.data (fun _ => read38_D (t.extract i.2.1 e) ?_) rfl rfl ?_ | refine GCall.scal (fun _ => read38_D (t.extract i.2.1 e) ?_) rfl rfl ?_) | ((with_reducible refine MCall.mark ?_); first | refine MCall.data (fun _ => read38_D (t.extract i.2.1 e) ?_) rfl rfl ?_ | refine MCall.plain (PCall.mk (read38_D (t.extract i.2.1 e) ?_) rfl rfl ?_)) | ((with_reducible refine ECall.mark ?_); first | refine ECall.only ?_ (fun h => nomatch h) | refine ECall.only ?_ ?_) | ((with_reducible refine Drawn.mark ?_); first | refine Drawn.quiet (by kernel_rfl) ?_) | refine dcell_row ?_ ?_ | refine dcell_ok rfl ?_ | refine AppC.new ?_))
    all_goals try ((conv => whnf); first | with_reducible refine Round.mark ?_ | with_reducible refine Tells.mark ?_)
    all_goals try first | ((with_reducible show isStr _ _ = true); rfl) | ((with_reducible show ((!_) == false) = true); exact grant18 h) | ((with_reducible show Option.isSome (slElem _ _) = true); kernel_rfl) | ((with_reducible show slElem _ _ = some _); kernel_rfl) | ((with_reducible refine enters_mark ?_); kernel_rfl) | (with_reducible assumption) | ((with_reducible show List.all _ DV.one = true); rfl) | ((with_reducible show (_ : Nat) = _); rfl) | ((with_reducible show (_ == true) = true); simpa using h) | ((with_reducible show (_ : Nat) ≤ _); exact Nat.le_of_ble_eq_true rfl) | ((with_reducible show (_ : Int) ≤ _); first | omega | decide) | ((with_reducible show (_ : Int) < _); first | omega | decide) | ((with_reducible show (_ : Nat) < _); omega) | ((with_reducible show (_ : Nat) ≤ _); omega)
    all_goals try (show (_ : Nat) < List.length [_, _]; simp; done)
    · exact of_decide_eq_true (by simpa using h)
    · have hg := scan_go h
      refine Round.go (· + 1) (scan_next he hg.1 hg.2) (by show t.size - (e + 1) < t.size - e; omega) (Weak.list [(0, some 0)] [] (by kernel_rfl) ?_ ?_)
      · repeat' (first | exact wsucc hg.1 (by omega) | exact OW.cells rfl rfl (DWl.same (rowM_all _)) | exact DW.same _ rfl | exact DW.ref _ _ _ rfl | exact DW.arr _ _ _ rfl | exact OW.cells rfl rfl (DWl.same rfl) | refine OW.cells rfl rfl ?_ | refine DWl.cons ?_ ?_ | exact DWl.nil | exact DW.nilArr _ rfl | exact DW.nilLst _ | refine DW.clol ?_ ?_ | refine DW.aggl ?_ | refine DW.tupl ?_ | refine DW.int ?_ | refine DW.bool ?_ | refine DW.str ?_ | refine DW.arrE rfl ?_ | ((conv => whnf); first | refine And.intro ?_ ?_ | trivial))
      · repeat' (first | exact wsucc hg.1 (by omega) | exact OW.cells rfl rfl (DWl.same (rowM_all _)) | exact DW.same _ rfl | exact DW.ref _ _ _ rfl | exact DW.arr _ _ _ rfl | exact OW.cells rfl rfl (DWl.same rfl) | refine OW.cells rfl rfl ?_ | refine DWl.cons ?_ ?_ | exact DWl.nil | exact DW.nilArr _ rfl | exact DW.nilLst _ | refine DW.clol ?_ ?_ | refine DW.aggl ?_ | refine DW.tupl ?_ | refine DW.int ?_ | refine DW.bool ?_ | refine DW.str ?_ | refine DW.arrE rfl ?_ | ((conv => whnf); first | refine And.intro ?_ ?_ | trivial))
    · exact Int.ofNat_le.2 (scan_le he).1
    · exact Int.ofNat_le.2 (scan_le he).2
    · exact ext_sz ht
    · have hs := scan_no he ‹(bif decide ((e : Int) < (t.size : Int)) then byteAt t ((e : Nat) : Int).toNat != 10 else false) = false›
      exact Tells.of (r1 := .tup [mxs [], int1 (i.2.2.length + 1 : Nat), int1 20]) (by rw [pd_bad hi hlt h32 he hs (bad_of h)]) (Tells.mk (DW.tupl (DWl.cons (DW.nilLst _) (DWl.cons (DW.int rfl) (DWl.cons (DW.int rfl) DWl.nil)))))
    · exact rm_b1 _
    · exact rm_b2 hl32
    · exact rm_b3 hl32
    · have hs := scan_no he ‹(bif decide ((e : Int) < (t.size : Int)) then byteAt t ((e : Nat) : Int).toNat != 10 else false) = false›
      have hg := good_of h
      have hez : e < t.size := Nat.lt_of_le_of_ne (scan_le he).2 hg.2
      have h10 : byteAt t e = 10 := by rcases hs with hs | hs; exact absurd hs hg.2; exact hs
      have hnx := pd_next hi hlt h32 he hez h10 hg.1
      refine Round.go (fun _ => (i.1 - 1, e + 1, i.2.2 ++ [(resM (docR (t.extract i.2.1 e))).1])) hnx.1 hnx.2 (Weak.list [(0, some 3)] [] (by kernel_rfl) ?_ ?_)
      · repeat' (first | exact wsucc hez (by omega) | exact OW.cells rfl rfl (DWl.eq (rowM_push i.2.2 _) (rowM_all _)) | exact pushM _ _ | exact congrArg (fun n : Nat => (n : Int)) (pushM _ _) | exact DW.same _ rfl | exact DW.ref _ _ _ rfl | exact DW.arr _ _ _ rfl | exact OW.cells rfl rfl (DWl.same rfl) | refine OW.cells rfl rfl ?_ | refine DWl.cons ?_ ?_ | exact DWl.nil | exact DW.nilArr _ rfl | exact DW.nilLst _ | refine DW.clol ?_ ?_ | refine DW.aggl ?_ | refine DW.tupl ?_ | refine DW.int ?_ | refine DW.bool ?_ | refine DW.str ?_ | refine DW.arrE rfl ?_ | ((conv => whnf); first | refine And.intro ?_ ?_ | trivial))
      · repeat' (first | exact wsucc hez (by omega) | exact OW.cells rfl rfl (DWl.eq (rowM_push i.2.2 _) (rowM_all _)) | exact pushM _ _ | exact congrArg (fun n : Nat => (n : Int)) (pushM _ _) | exact DW.same _ rfl | exact DW.ref _ _ _ rfl | exact DW.arr _ _ _ rfl | exact OW.cells rfl rfl (DWl.same rfl) | refine OW.cells rfl rfl ?_ | refine DWl.cons ?_ ?_ | exact DWl.nil | exact DW.nilArr _ rfl | exact DW.nilLst _ | refine DW.clol ?_ ?_ | refine DW.aggl ?_ | refine DW.tupl ?_ | refine DW.int ?_ | refine DW.bool ?_ | refine DW.str ?_ | refine DW.arrE rfl ?_ | ((conv => whnf); first | refine And.intro ?_ ?_ | trivial))
  · rename_i i hi
    conv => whnf
    exact Tells.of (r1 := .tup [mxs i.2.2, int1 0, int1 0]) (by rw [pd_end hi (by simpa using h)]) (Tells.mk (DW.tupl (DWl.cons (DW.pubM rfl rfl rfl rfl (mxsRow _) (rowM_eq _)) (DWl.cons (DW.int rfl) (DWl.cons (DW.int rfl) DWl.nil)))))
end Go.Proofs.YtgaghkchdiepoaaDoor

/- What ChaosTexts computes. -/
namespace Go.Proofs.YtgaghkchdiepoaaDoor
open Go.RowKit Go.Dl
attribute [local irreducible] Tri SCall TSem ECall Drawn DFun QSem PSem PCall GCall MCall Round Weak dloadE OW DWl Tells IntKind.wrap Retold ESem
theorem ba_self (s : ByteArray) : (s != s) = false := by
  have : (s == s) = true := ba_eq.2 rfl
  simp [bne, this]
theorem same_self (l : List Mx) : DPure Tryd.prog 17 [mxs l, mxs l] (bl true) := by
  have := same_D l l
  rw [decide_eq_true rfl] at this
  exact this
theorem test5 {r : List Mx × Int × Int} {t : ByteArray} : (bif bif bif !true then true else r.2.1 != r.2.1 then true else r.2.2 != r.2.2 then true else t != t) = false := by
  have := ba_self t
  simp [this]
theorem fitb_t {l : List Mx} (h : FitP 16 l) : fitB 16 l = true := decide_eq_true h
theorem fitb_f {l : List Mx} (h : ¬ FitP 16 l) : fitB 16 l = false := decide_eq_false h
attribute [local irreducible] parseT textT fitB
set_option maxRecDepth 20000 in
theorem texts5_D (l : List Mx) (s : ByteArray) (hs : s.size < 4294967281) : DPure Tryd.prog 5 [mxs l, .v (.string s)] (bl true) := by
  have h9 := fit9_D 16 l
  have hp : DPure Tryd.prog 18 [.v (.string s)] (.tup [mxs (parseT s).1, .agg [int1 (parseT s).2.1, int1 (parseT s).2.2]]) := parse18_D s hs
  have hd : DPure Tryd.prog 19 [.v (.string s)] (.tup [mxs (parseT s).1, int1 (parseT s).2.1, int1 (parseT s).2.2]) := docParse19_D s hs
  generalize parseT s = r at hp hd
  have h17 := same_self r.1
  have h17l := same_self l
  have ht := test5 (r := r) (t := textT l)
  by_cases hf : FitP 16 l
  · rw [fitb_t hf] at h9
    have hb : DPure Tryd.prog 18 [.v (.string (textT l))] (.tup [mxs (parseT (textT l)).1, .agg [int1 (parseT (textT l)).2.1, int1 (parseT (textT l)).2.2]]) := parse18_D (textT l) (text_small l)
    rw [parse_text hf] at hb
    refine DFun.data (DFun.body Tryd.func5 rfl (by kernel_rfl) ?_)
    repeat' (first | with_reducible rfl | ((conv => whnf); first | refine And.intro ?_ ?_ | (intro h; first | with_reducible exact tf_no h | with_reducible exact ft_no h | exact Bool.noConfusion h | with_reducible exact h | (exact absurd (h.symm.trans ht) (by decide)) | (refine not_t h ?_; rfl) | (refine not_f h ?_; rfl) | (have ht : true = true := h; clear ht h) | skip) | ((with_reducible refine DWl.mark ?_); repeat' (first | refine DWl.cons ?_ ?_ | exact DWl.nil | exact DW.same _ rfl | exact DW.ref _ _ _ rfl | exact DW.arr _ _ _ rfl | exact DW.sub _ _ _ _ rfl | exact DW.nilLst _ | refine DW.aggl ?_ | refine DW.tupl ?_ | refine DW.clol ?_ ?_ | refine DW.int ?_ | refine DW.bool ?_ | refine DW.str ?_)) | ((with_reducible refine SCall.mark ?_); first | refine SCall.data (h9) rfl rfl ?_ | refine SCall.scal (h9) rfl rfl ?_ | refine SCall.data (hp) rfl rfl ?_ | refine SCall.scal (hp) rfl rfl ?_ | refine SCall.data (hd) rfl rfl ?_ | refine SCall.scal (hd) rfl rfl ?_ | refine SCall.data (hb) rfl rfl ?_ | refine SCall.scal (hb) rfl rfl ?_ | refine SCall.data (h17) rfl rfl ?_ | refine SCall.scal (h17) rfl rfl ?_ | refine SCall.data (h17l) rfl rfl ?_ | refine SCall.scal (h17l) rfl rfl ?_ | refine SCall.data (text20_D l) rfl rfl ?_ | refine SCall.scal (text20_D l) rfl rfl ?_ | refine SCall.data (text21_D l) rfl rfl ?_ | refine SCall.scal (text21_D l) rfl rfl ?_ | refine SCall.data (awake13_D) rfl rfl ?_ | refine SCall.scal (awake13_D) rfl rfl ?_) | ((with_reducible refine PCall.mark ?_); first | refine PCall.mk (h9) rfl rfl ?_ | refine PCall.mk (hp) rfl rfl ?_ | refine PCall.mk (hd) rfl rfl ?_ | refine PCall.mk (hb) rfl rfl ?_ | refine PCall.mk (h17) rfl rfl ?_ | refine PCall.mk (h17l) rfl rfl ?_ | refine PCall.mk (text20_D l) rfl rfl ?_ | refine PCall.mk (text21_D l) rfl rfl ?_ | refine PCall.mk (awake13_D) rfl rfl ?_) | ((with_reducible refine GCall.mark ?_); first | refine GCall.data (fun _ => h9) rfl rfl ?_ | refine GCall.scal (fun _ => h9) rfl rfl ?_ | refine GCall.data (fun _ => hp) rfl rfl ?_ | refine GCall.scal (fun _ => hp) rfl rfl ?_ | refine GCall.data (fun _ => hd) rfl rfl ?_ | refine GCall.scal (fun _ => hd) rfl rfl ?_ | refine GCall.data (fun _ => hb) rfl rfl ?_ | refine GCall.scal (fun _ => hb) rfl rfl ?_ | refine GCall.data (fun _ => h17) rfl rfl ?_ | refine GCall.scal (fun _ => h17) rfl rfl ?_ | refine GCall.data (fun _ => h17l) rfl rfl ?_ | refine GCall.scal (fun _ => h17l) rfl rfl ?_ | refine GCall.data (fun _ => text20_D l) rfl rfl ?_ | refine GCall.scal (fun _ => text20_D l) rfl rfl ?_ | refine GCall.data (fun _ => text21_D l) rfl rfl ?_ | refine GCall.scal (fun _ => text21_D l) rfl rfl ?_ | refine GCall.data (fun _ => awake13_D) rfl rfl ?_ | refine GCall.scal (fun _ => awake13_D) rfl rfl ?_) | ((with_reducible refine MCall.mark ?_); first | refine MCall.data (fun _ => h9) rfl rfl ?_ | refine MCall.plain (PCall.mk (h9) rfl rfl ?_) | refine MCall.data (fun _ => hp) rfl rfl ?_ | refine MCall.plain (PCall.mk (hp) rfl rfl ?_) | refine MCall.data (fun _ => hd) rfl rfl ?_ | refine MCall.plain (PCall.mk (hd) rfl rfl ?_) | refine MCall.data (fun _ => hb) rfl rfl ?_ | refine MCall.plain (PCall.mk (hb) rfl rfl ?_) | refine MCall.data (fun _ => h17) rfl rfl ?_ | refine MCall.plain (PCall.mk (h17) rfl rfl ?_) | refine MCall.data (fun _ => h17l) rfl rfl ?_ | refine MCall.plain (PCall.mk (h17l) rfl rfl ?_) | refine MCall.data (fun _ => text20_D l) rfl rfl ?_ | refine MCall.plain (PCall.mk (text20_D l) rfl rfl ?_) | refine MCall.data (fun _ => text21_D l) rfl rfl ?_ | refine MCall.plain (PCall.mk (text21_D l) rfl rfl ?_) | refine MCall.data (fun _ => awake13_D) rfl rfl ?_ | refine MCall.plain (PCall.mk (awake13_D) rfl rfl ?_)) | ((with_reducible refine ex_mark ?_); first | refine dq_eql k39 ?_ rfl ?_ rfl rfl ?_ | refine dq_neq k39 ?_ rfl ?_ rfl rfl ?_) | ((with_reducible refine ECall.mark ?_); first | refine ECall.only ?_ (fun h => nomatch h) | refine ECall.only ?_ ?_) | ((with_reducible refine Drawn.mark ?_); first | refine Drawn.quiet (by kernel_rfl) ?_) | refine dcell_ok rfl ?_ | refine AppC.new ?_))
    all_goals first | (with_reducible refine enters_mark ?_; kernel_rfl) | (with_reducible refine boolT_mark ?_; kernel_rfl) | rfl | trivial | assumption | exact Nat.le_of_ble_eq_true rfl | (show entersB _ _ = true; kernel_rfl) | exact DW.same _ rfl | exact DW.ref _ _ _ rfl | exact DW.arr _ _ _ rfl | refine DW.int ?_ | refine dvb ?_ | refine dvi ?_ | exact OW.cells rfl rfl (DWl.same rfl) | exact Nat.zero_le _ | omega | skip
    all_goals repeat' (first | refine OW.cells rfl rfl ?_ | exact DW.nilArr _ rfl | refine DWl.cons ?_ ?_ | exact DWl.nil | exact DW.same _ rfl | exact DW.ref _ _ _ rfl | exact DW.arr _ _ _ rfl | exact DW.sub _ _ _ _ rfl | exact DW.nilLst _ | refine DW.aggl ?_ | refine DW.tupl ?_ | refine DW.clol ?_ ?_)
    all_goals try ((conv => whnf); with_reducible first | refine Round.mark ?_ | refine Tells.mark ?_ | refine Retold.mark ?_)
    all_goals try first | (show (_ : Bool) = _; simp_all; done) | (show (_ : Int) < _; simp at *; omega) | (show (_ : Int) ≤ _; simp at *; omega) | (show (_ : Nat) < _; simp at *; omega) | (show (_ : Nat) ≤ _; simp at *; omega)
    conv => whnf
    exact Tells.mk (DW.bool rfl)
  · rw [fitb_f hf] at h9
    refine DFun.data (DFun.body Tryd.func5 rfl (by kernel_rfl) ?_)
    repeat' (first | with_reducible rfl | ((conv => whnf); first | refine And.intro ?_ ?_ | (intro h; first | with_reducible exact tf_no h | with_reducible exact ft_no h | exact Bool.noConfusion h | with_reducible exact h | (exact absurd (h.symm.trans ht) (by decide)) | (refine not_t h ?_; rfl) | (refine not_f h ?_; rfl) | (have ht : true = true := h; clear ht h) | skip) | ((with_reducible refine DWl.mark ?_); repeat' (first | refine DWl.cons ?_ ?_ | exact DWl.nil | exact DW.same _ rfl | exact DW.ref _ _ _ rfl | exact DW.arr _ _ _ rfl | exact DW.sub _ _ _ _ rfl | exact DW.nilLst _ | refine DW.aggl ?_ | refine DW.tupl ?_ | refine DW.clol ?_ ?_ | refine DW.int ?_ | refine DW.bool ?_ | refine DW.str ?_)) | ((with_reducible refine SCall.mark ?_); first | refine SCall.data (h9) rfl rfl ?_ | refine SCall.scal (h9) rfl rfl ?_ | refine SCall.data (hp) rfl rfl ?_ | refine SCall.scal (hp) rfl rfl ?_ | refine SCall.data (hd) rfl rfl ?_ | refine SCall.scal (hd) rfl rfl ?_ | refine SCall.data (h17) rfl rfl ?_ | refine SCall.scal (h17) rfl rfl ?_ | refine SCall.data (h17l) rfl rfl ?_ | refine SCall.scal (h17l) rfl rfl ?_ | refine SCall.data (text20_D l) rfl rfl ?_ | refine SCall.scal (text20_D l) rfl rfl ?_ | refine SCall.data (text21_D l) rfl rfl ?_ | refine SCall.scal (text21_D l) rfl rfl ?_ | refine SCall.data (awake13_D) rfl rfl ?_ | refine SCall.scal (awake13_D) rfl rfl ?_) | ((with_reducible refine PCall.mark ?_); first | refine PCall.mk (h9) rfl rfl ?_ | refine PCall.mk (hp) rfl rfl ?_ | refine PCall.mk (hd) rfl rfl ?_ | refine PCall.mk (h17) rfl rfl ?_ | refine PCall.mk (h17l) rfl rfl ?_ | refine PCall.mk (text20_D l) rfl rfl ?_ | refine PCall.mk (text21_D l) rfl rfl ?_ | refine PCall.mk (awake13_D) rfl rfl ?_) | ((with_reducible refine GCall.mark ?_); first | refine GCall.data (fun _ => h9) rfl rfl ?_ | refine GCall.scal (fun _ => h9) rfl rfl ?_ | refine GCall.data (fun _ => hp) rfl rfl ?_ | refine GCall.scal (fun _ => hp) rfl rfl ?_ | refine GCall.data (fun _ => hd) rfl rfl ?_ | refine GCall.scal (fun _ => hd) rfl rfl ?_ | refine GCall.data (fun _ => h17) rfl rfl ?_ | refine GCall.scal (fun _ => h17) rfl rfl ?_ | refine GCall.data (fun _ => h17l) rfl rfl ?_ | refine GCall.scal (fun _ => h17l) rfl rfl ?_ | refine GCall.data (fun _ => text20_D l) rfl rfl ?_ | refine GCall.scal (fun _ => text20_D l) rfl rfl ?_ | refine GCall.data (fun _ => text21_D l) rfl rfl ?_ | refine GCall.scal (fun _ => text21_D l) rfl rfl ?_ | refine GCall.data (fun _ => awake13_D) rfl rfl ?_ | refine GCall.scal (fun _ => awake13_D) rfl rfl ?_) | ((with_reducible refine MCall.mark ?_); first | refine MCall.data (fun _ => h9) rfl rfl ?_ | refine MCall.plain (PCall.mk (h9) rfl rfl ?_) | refine MCall.data (fun _ => hp) rfl rfl ?_ | refine MCall.plain (PCall.mk (hp) rfl rfl ?_) | refine MCall.data (fun _ => hd) rfl rfl ?_ | refine MCall.plain (PCall.mk (hd) rfl rfl ?_) | refine MCall.data (fun _ => h17) rfl rfl ?_ | refine MCall.plain (PCall.mk (h17) rfl rfl ?_) | refine MCall.data (fun _ => h17l) rfl rfl ?_ | refine MCall.plain (PCall.mk (h17l) rfl rfl ?_) | refine MCall.data (fun _ => text20_D l) rfl rfl ?_ | refine MCall.plain (PCall.mk (text20_D l) rfl rfl ?_) | refine MCall.data (fun _ => text21_D l) rfl rfl ?_ | refine MCall.plain (PCall.mk (text21_D l) rfl rfl ?_) | refine MCall.data (fun _ => awake13_D) rfl rfl ?_ | refine MCall.plain (PCall.mk (awake13_D) rfl rfl ?_)) | ((with_reducible refine ex_mark ?_); first | refine dq_eql k39 ?_ rfl ?_ rfl rfl ?_ | refine dq_neq k39 ?_ rfl ?_ rfl rfl ?_) | ((with_reducible refine ECall.mark ?_); first | refine ECall.only ?_ (fun h => nomatch h) | refine ECall.only ?_ ?_) | ((with_reducible refine Drawn.mark ?_); first | refine Drawn.quiet (by kernel_rfl) ?_) | refine dcell_ok rfl ?_ | refine AppC.new ?_))
    all_goals first | (with_reducible refine enters_mark ?_; kernel_rfl) | (with_reducible refine boolT_mark ?_; kernel_rfl) | rfl | trivial | assumption | exact Nat.le_of_ble_eq_true rfl | (show entersB _ _ = true; kernel_rfl) | exact DW.same _ rfl | exact DW.ref _ _ _ rfl | exact DW.arr _ _ _ rfl | refine DW.int ?_ | refine dvb ?_ | refine dvi ?_ | exact OW.cells rfl rfl (DWl.same rfl) | exact Nat.zero_le _ | omega | skip
    all_goals repeat' (first | refine OW.cells rfl rfl ?_ | exact DW.nilArr _ rfl | refine DWl.cons ?_ ?_ | exact DWl.nil | exact DW.same _ rfl | exact DW.ref _ _ _ rfl | exact DW.arr _ _ _ rfl | exact DW.sub _ _ _ _ rfl | exact DW.nilLst _ | refine DW.aggl ?_ | refine DW.tupl ?_ | refine DW.clol ?_ ?_)
    all_goals try ((conv => whnf); with_reducible first | refine Round.mark ?_ | refine Tells.mark ?_ | refine Retold.mark ?_)
    all_goals try first | (show (_ : Bool) = _; simp_all; done) | (show (_ : Int) < _; simp at *; omega) | (show (_ : Int) ≤ _; simp at *; omega) | (show (_ : Nat) < _; simp at *; omega) | (show (_ : Nat) ≤ _; simp at *; omega)
    conv => whnf
    exact Tells.mk (DW.bool rfl)
end Go.Proofs.YtgaghkchdiepoaaDoor
