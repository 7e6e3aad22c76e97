/- The document's Number. -/
import Derived.Test.YtphgcgggbbcjgaaDoorS
namespace Go.Proofs.YtphgcgggbbcjgaaDoor
open Go.RowKit Go.Dl
attribute [local irreducible] Tri SCall DFun QSem PSem PCall GCall MCall Round Weak dloadE OW DWl Tells IntKind.wrap Retold ESem

theorem _root_.Go.Dl.Tri.at {P : Program} {N : Nat} {Y : YT} {c : Code} {st : St} {Q : DExit → St → Prop} (t : Nat) (d : DV) (_ : st.tm t = d) (h : Tri P N Y c st Q) : Tri P N Y c st Q := h
def badD (n d : Int) : Bool := bif bif bif decide (d < 0) then true else decide (9 < d) then true else decide (n < -922337203685477580) then true else bif n == -922337203685477580 then decide (8 < d) else false
def numLoop (n : Int) : List UInt8 → Option Int
  | [] => some n
  | c :: r => if badD n ((c.toNat : Int) - 48) = true then none else numLoop (10 * n - ((c.toNat : Int) - 48)) r
def numAt (b : List UInt8) : Nat := if 0 < b.length ∧ (b.getD 0 0).toNat = 45 then 1 else 0
def numO (b : List UInt8) : Option Int :=
  if b.length = numAt b ∨ ((b.getD (numAt b) 0).toNat = 48 ∧ 1 < b.length) then none
  else match numLoop 0 (b.drop (numAt b)) with
    | none => none
    | some n => if numAt b = 1 then some n else if n = -9223372036854775808 then none else some (-n)
def numR : Option Int → Int × Bool
  | none => (0, false)
  | some v => (v, true)
def numSt (s : ByteArray) (at' : Nat) (i : Nat × Int) : St := ⟨0, tmOf [(0, .v (.string s)), (4, int1 at'), (5, int1 i.2), (6, int1 i.1)], .of [] 0⟩
def NumI (s : ByteArray) (at' : Nat) (i : Nat × Int) : Prop := i.1 ≤ s.data.toList.length ∧ -9223372036854775808 ≤ i.2 ∧ i.2 ≤ 0 ∧ numLoop 0 (s.data.toList.drop at') = numLoop i.2 (s.data.toList.drop i.1)
theorem sz_data (s : ByteArray) : s.size = s.data.toList.length := Array.length_toList.symm
theorem byte_at (s : ByteArray) (n : Nat) : byteAt s n = ((s.data.toList.getD n 0).toNat : Int) := rfl
theorem byte_lt (s : ByteArray) (n : Nat) : 0 ≤ byteAt s n ∧ byteAt s n ≤ 255 := by
  have := (s.data.toList.getD n 0).toNat_lt
  rw [byte_at]; omega
theorem byte_wrap (s : ByteArray) (n : Nat) : IntKind.i64.wrap (IntKind.i64.wrap (byteAt s n) - 48) = byteAt s n - 48 := by
  have := byte_lt s n
  rw [wrapI (x := byteAt s n) (by omega) (by omega), wrapI (by omega) (by omega)]
theorem at_one {s : ByteArray} (h : (bif decide ((0 : Int) < (s.size : Int)) then byteAt s (Int.toNat 0) == 45 else false) = true) : numAt s.data.toList = 1 := by
  have e : Int.toNat 0 = 0 := rfl
  rw [e, byte_at, sz_data] at h
  unfold numAt
  simp only [Bool.cond_false_right, Bool.and_eq_true, decide_eq_true_eq, beq_iff_eq] at h
  rw [if_pos (by omega)]
theorem at_zero {s : ByteArray} (h : (bif decide ((0 : Int) < (s.size : Int)) then byteAt s (Int.toNat 0) == 45 else false) = false) : numAt s.data.toList = 0 := by
  have e : Int.toNat 0 = 0 := rfl
  rw [e, byte_at, sz_data] at h
  unfold numAt
  refine if_neg fun hc => ?_
  simp only [Bool.cond_false_right, Bool.and_eq_false_imp, decide_eq_true_eq, beq_eq_false_iff_ne] at h
  omega
theorem no_form {s : ByteArray} {a : Nat} (ha : numAt s.data.toList = a) (h : (bif (s.size : Int) == (a : Int) then true else bif byteAt s a == 48 then decide ((1 : Int) < (s.size : Int)) else false) = true) : numO s.data.toList = none := by
  rw [byte_at, sz_data] at h
  unfold numO
  rw [ha]
  refine if_pos ?_
  simp only [Bool.cond_true_left, Bool.cond_false_right, Bool.or_eq_true, Bool.and_eq_true, decide_eq_true_eq, beq_iff_eq] at h
  omega
theorem form {s : ByteArray} {a : Nat} (ha : numAt s.data.toList = a) (h : (bif (s.size : Int) == (a : Int) then true else bif byteAt s a == 48 then decide ((1 : Int) < (s.size : Int)) else false) = false) :
    a < s.data.toList.length ∧ numO s.data.toList = match numLoop 0 (s.data.toList.drop a) with
    | none => none
    | some n => if a = 1 then some n else if n = -9223372036854775808 then none else some (-n) := by
  rw [byte_at, sz_data] at h
  simp only [Bool.cond_true_left, Bool.cond_false_right, Bool.or_eq_false_iff, Bool.and_eq_false_imp, decide_eq_true_eq, decide_eq_false_iff_not, beq_eq_false_iff_ne, beq_iff_eq] at h
  have hle : a ≤ s.data.toList.length := by
    rw [← ha]; unfold numAt; split <;> omega
  refine ⟨by omega, ?_⟩
  unfold numO
  rw [ha]
  exact if_neg (by omega)
theorem loop_bad {s : ByteArray} {a : Nat} {i : Nat × Int} (hi : NumI s a i) (hlt : i.1 < s.data.toList.length) (h : badD i.2 (byteAt s i.1 - 48) = true) : numLoop 0 (s.data.toList.drop a) = none := by
  rw [hi.2.2.2, drop_at (d := 0) hlt, numLoop]; exact if_pos h
theorem loop_step {s : ByteArray} {a : Nat} {i : Nat × Int} (hi : NumI s a i) (hlt : i.1 < s.data.toList.length) (h : badD i.2 (byteAt s i.1 - 48) = false) :
    IntKind.i64.wrap (IntKind.i64.wrap (10 * i.2) - (byteAt s i.1 - 48)) = 10 * i.2 - (byteAt s i.1 - 48) ∧ NumI s a (i.1 + 1, 10 * i.2 - (byteAt s i.1 - 48)) := by
  have hb := byte_lt s i.1
  have h' := h
  unfold badD at h
  simp only [Bool.cond_true_left, Bool.cond_false_right, Bool.or_eq_false_iff, Bool.and_eq_false_imp, decide_eq_false_iff_not, beq_iff_eq] at h
  obtain ⟨h1, h2, h3, h4⟩ := hi
  have e1 : -9223372036854775808 ≤ 10 * i.2 - (byteAt s i.1 - 48) ∧ 10 * i.2 - (byteAt s i.1 - 48) ≤ 0 := by
    by_cases e : i.2 = -922337203685477580
    · have := h.2 e
      omega
    · omega
  refine ⟨by rw [wrapI (x := 10 * i.2) (by omega) (by omega), wrapI (by omega) (by omega)], ?_⟩
  refine ⟨hlt, e1.1, e1.2, ?_⟩
  rw [h4, drop_at (d := 0) hlt, numLoop, if_neg (by rw [show ((s.data.toList.getD i.1 0).toNat : Int) = byteAt s i.1 from rfl, h']; decide)]
  rfl
theorem loop_end {s : ByteArray} {a : Nat} {i : Nat × Int} (hi : NumI s a i) (hge : s.data.toList.length ≤ i.1) : numLoop 0 (s.data.toList.drop a) = some i.2 := by
  rw [hi.2.2.2, List.drop_of_length_le hge, numLoop]
attribute [local irreducible] numO numLoop byteAt
set_option maxRecDepth 20000 in
theorem number37_D (s : ByteArray) (hmax : s.size ≤ 4294967281) : DPure Tryd.prog 37 [.v (.string s)] (.tup [int1 (numR (numO s.data.toList)).1, bl (numR (numO s.data.toList)).2]) := by
  refine DFun.data (DFun.body Tryd.func37 rfl (by kernel_rfl) ?_)
  repeat' (first | with_reducible rfl | ((conv => whnf); first | refine And.intro ?_ ?_ | (intro h; first | exact Bool.noConfusion h | with_reducible exact h | (have ht : true = true := h; clear ht h) | skip) | ((with_reducible refine DWl.mark ?_); repeat' (first | refine DWl.cons ?_ ?_ | exact DWl.nil | exact DW.same _ rfl | exact DW.ref _ _ _ rfl | exact DW.arr _ _ _ rfl | exact DW.sub _ _ _ _ rfl | exact DW.nilLst _ | refine DW.aggl ?_ | refine DW.tupl ?_ | refine DW.clol ?_ ?_ | refine DW.int ?_ | refine DW.bool ?_ | refine DW.str ?_)) | ((with_reducible refine Tri.mark ?_); first | (refine Tri.at (4) (int1 0) (by rfl) ?_; refine Tri.loop (numSt s 0) (NumI s 0) (fun i => s.size - i.1) (0, 0) (by kernel_rfl) (Weak.list [] [] (by kernel_rfl) ?_ ?_) ?_ ?_) | (refine Tri.at (4) (int1 1) (by rfl) ?_; refine Tri.loop (numSt s 1) (NumI s 1) (fun i => s.size - i.1) (1, 0) (by kernel_rfl) (Weak.list [] [] (by kernel_rfl) ?_ ?_) ?_ ?_)) | refine dcell_ok rfl ?_ | refine AppC.new ?_))
  all_goals first | (with_reducible refine enters_mark ?_; kernel_rfl) | (with_reducible refine boolT_mark ?_; kernel_rfl) | rfl | trivial | assumption | exact Nat.le_of_ble_eq_true rfl | (show entersB _ _ = true; kernel_rfl) | exact DW.same _ rfl | exact DW.ref _ _ _ rfl | exact DW.arr _ _ _ rfl | refine DW.int ?_ | refine dvb ?_ | refine dvi ?_ | exact OW.cells rfl rfl (DWl.same rfl) | exact Nat.zero_le _ | omega | skip
  all_goals repeat' (first | refine OW.cells rfl rfl ?_ | exact DW.nilArr _ rfl | refine DWl.cons ?_ ?_ | exact DWl.nil | exact DW.same _ rfl | exact DW.ref _ _ _ rfl | exact DW.arr _ _ _ rfl | exact DW.sub _ _ _ _ rfl | exact DW.nilLst _ | refine DW.aggl ?_ | refine DW.tupl ?_ | refine DW.clol ?_ ?_)
  all_goals try ((conv => whnf); with_reducible first | refine Round.mark ?_ | refine Tells.mark ?_ | refine Retold.mark ?_)
  all_goals try first | (show (_ : Bool) = _; simp_all; done) | (show (_ : Int) < _; simp at *; omega) | (show (_ : Int) ≤ _; simp at *; omega) | (show (_ : Nat) < _; simp at *; omega) | (show (_ : Nat) ≤ _; simp at *; omega)
  · have ha := at_one ‹(bif decide ((0 : Int) < (s.size : Int)) then byteAt s (Int.toNat 0) == 45 else false) = true›
    conv => whnf
    exact Tells.of (r1 := .tup [int1 0, bl false]) (by rw [no_form ha h]; rfl) (Tells.mk (DW.tupl (DWl.cons (DW.int rfl) (DWl.cons (DW.bool rfl) DWl.nil))))
  · rename_i i hi e1
    have ha := at_one ‹(bif decide ((0 : Int) < (s.size : Int)) then byteAt s (Int.toNat 0) == 45 else false) = true›
    have hf := form ha ‹(bif (s.size : Int) == ((1 : Nat) : Int) then true else bif byteAt s (Int.toNat 1) == 48 then decide ((1 : Int) < (s.size : Int)) else false) = false›
    have hlt : i.1 < s.data.toList.length := by have := of_decide_eq_true e1; rw [sz_data] at this; omega
    rw [byte_wrap, Int.toNat_natCast] at h
    have e4 : numO s.data.toList = none := by rw [hf.2, loop_bad hi hlt h]
    conv => whnf
    exact Tells.of (r1 := .tup [int1 0, bl false]) (by rw [e4]; rfl) (Tells.mk (DW.tupl (DWl.cons (DW.int rfl) (DWl.cons (DW.bool rfl) DWl.nil))))
  · rename_i i hi e1
    have hlt : i.1 < s.data.toList.length := by have := of_decide_eq_true e1; rw [sz_data] at this; omega
    have hlt2 : i.1 < s.size := by rw [sz_data]; exact hlt
    rw [byte_wrap, Int.toNat_natCast] at h
    have e4 := loop_step hi hlt h
    have e5 : IntKind.i64.wrap (IntKind.i64.wrap (10 * i.2) - IntKind.i64.wrap (IntKind.i64.wrap (byteAt s ((i.1 : Nat) : Int).toNat) - 48)) = 10 * i.2 - (byteAt s i.1 - 48) := by rw [byte_wrap, Int.toNat_natCast]; exact e4.1
    refine Round.go (fun _ => (i.1 + 1, 10 * i.2 - (byteAt s i.1 - 48))) e4.2 (by show s.size - (i.1 + 1) < s.size - i.1; omega) (Weak.list [] [] (by kernel_rfl) ?_ ?_)
    · repeat' (first | exact wsucc hlt2 (by omega) | exact e5 | exact DW.same _ rfl | exact DW.ref _ _ _ rfl | exact DW.arr _ _ _ rfl | exact OW.cells rfl rfl (DWl.same rfl) | refine OW.cells rfl rfl ?_ | refine DWl.cons ?_ ?_ | exact DWl.nil | exact DW.nilArr _ rfl | exact DW.nilLst _ | refine DW.clol ?_ ?_ | refine DW.aggl ?_ | refine DW.tupl ?_ | refine DW.int ?_ | refine DW.bool ?_ | refine DW.str ?_ | refine DW.arrE rfl ?_ | ((conv => whnf); first | refine And.intro ?_ ?_ | trivial))
    · repeat' (first | exact wsucc hlt2 (by omega) | exact e5 | exact DW.same _ rfl | exact DW.ref _ _ _ rfl | exact DW.arr _ _ _ rfl | exact OW.cells rfl rfl (DWl.same rfl) | refine OW.cells rfl rfl ?_ | refine DWl.cons ?_ ?_ | exact DWl.nil | exact DW.nilArr _ rfl | exact DW.nilLst _ | refine DW.clol ?_ ?_ | refine DW.aggl ?_ | refine DW.tupl ?_ | refine DW.int ?_ | refine DW.bool ?_ | refine DW.str ?_ | refine DW.arrE rfl ?_ | ((conv => whnf); first | refine And.intro ?_ ?_ | trivial))
  · rename_i i hi
    have ha := at_one ‹(bif decide ((0 : Int) < (s.size : Int)) then byteAt s (Int.toNat 0) == 45 else false) = true›
    have hf := form ha ‹(bif (s.size : Int) == ((1 : Nat) : Int) then true else bif byteAt s (Int.toNat 1) == 48 then decide ((1 : Int) < (s.size : Int)) else false) = false›
    have hge : s.data.toList.length ≤ i.1 := by have := of_decide_eq_false h; rw [sz_data] at this; omega
    have e4 : numO s.data.toList = some i.2 := by rw [hf.2, loop_end hi hge]; rfl
    conv => whnf
    exact Tells.of (r1 := .tup [int1 i.2, bl true]) (by rw [e4]; rfl) (Tells.mk (DW.tupl (DWl.cons (DW.int rfl) (DWl.cons (DW.bool rfl) DWl.nil))))
  · have h5 : ((s.size : Int) == 0) = false := eq_of_beq h
    simp only [beq_eq_false_iff_ne] at h5
    omega
  · have ha := at_zero ‹(bif decide ((0 : Int) < (s.size : Int)) then byteAt s (Int.toNat 0) == 45 else false) = false›
    conv => whnf
    exact Tells.of (r1 := .tup [int1 0, bl false]) (by rw [no_form ha h]; rfl) (Tells.mk (DW.tupl (DWl.cons (DW.int rfl) (DWl.cons (DW.bool rfl) DWl.nil))))
  · rename_i i hi e1
    have ha := at_zero ‹(bif decide ((0 : Int) < (s.size : Int)) then byteAt s (Int.toNat 0) == 45 else false) = false›
    have hf := form ha ‹(bif (s.size : Int) == ((0 : Nat) : Int) then true else bif byteAt s (Int.toNat 0) == 48 then decide ((1 : Int) < (s.size : Int)) else false) = false›
    have hlt : i.1 < s.data.toList.length := by have := of_decide_eq_true e1; rw [sz_data] at this; omega
    rw [byte_wrap, Int.toNat_natCast] at h
    have e4 : numO s.data.toList = none := by rw [hf.2, loop_bad hi hlt h]
    conv => whnf
    exact Tells.of (r1 := .tup [int1 0, bl false]) (by rw [e4]; rfl) (Tells.mk (DW.tupl (DWl.cons (DW.int rfl) (DWl.cons (DW.bool rfl) DWl.nil))))
  · rename_i i hi e1
    have hlt : i.1 < s.data.toList.length := by have := of_decide_eq_true e1; rw [sz_data] at this; omega
    have hlt2 : i.1 < s.size := by rw [sz_data]; exact hlt
    rw [byte_wrap, Int.toNat_natCast] at h
    have e4 := loop_step hi hlt h
    have e5 : IntKind.i64.wrap (IntKind.i64.wrap (10 * i.2) - IntKind.i64.wrap (IntKind.i64.wrap (byteAt s ((i.1 : Nat) : Int).toNat) - 48)) = 10 * i.2 - (byteAt s i.1 - 48) := by rw [byte_wrap, Int.toNat_natCast]; exact e4.1
    refine Round.go (fun _ => (i.1 + 1, 10 * i.2 - (byteAt s i.1 - 48))) e4.2 (by show s.size - (i.1 + 1) < s.size - i.1; omega) (Weak.list [] [] (by kernel_rfl) ?_ ?_)
    · repeat' (first | exact wsucc hlt2 (by omega) | exact e5 | exact DW.same _ rfl | exact DW.ref _ _ _ rfl | exact DW.arr _ _ _ rfl | exact OW.cells rfl rfl (DWl.same rfl) | refine OW.cells rfl rfl ?_ | refine DWl.cons ?_ ?_ | exact DWl.nil | exact DW.nilArr _ rfl | exact DW.nilLst _ | refine DW.clol ?_ ?_ | refine DW.aggl ?_ | refine DW.tupl ?_ | refine DW.int ?_ | refine DW.bool ?_ | refine DW.str ?_ | refine DW.arrE rfl ?_ | ((conv => whnf); first | refine And.intro ?_ ?_ | trivial))
    · repeat' (first | exact wsucc hlt2 (by omega) | exact e5 | exact DW.same _ rfl | exact DW.ref _ _ _ rfl | exact DW.arr _ _ _ rfl | exact OW.cells rfl rfl (DWl.same rfl) | refine OW.cells rfl rfl ?_ | refine DWl.cons ?_ ?_ | exact DWl.nil | exact DW.nilArr _ rfl | exact DW.nilLst _ | refine DW.clol ?_ ?_ | refine DW.aggl ?_ | refine DW.tupl ?_ | refine DW.int ?_ | refine DW.bool ?_ | refine DW.str ?_ | refine DW.arrE rfl ?_ | ((conv => whnf); first | refine And.intro ?_ ?_ | trivial))
  · rename_i i hi e1 e0
    have ha := at_zero ‹(bif decide ((0 : Int) < (s.size : Int)) then byteAt s (Int.toNat 0) == 45 else false) = false›
    have hf := form ha ‹(bif (s.size : Int) == ((0 : Nat) : Int) then true else bif byteAt s (Int.toNat 0) == 48 then decide ((1 : Int) < (s.size : Int)) else false) = false›
    have hge : s.data.toList.length ≤ i.1 := by have := of_decide_eq_false e1; rw [sz_data] at this; omega
    have e4 : numO s.data.toList = none := by rw [hf.2, loop_end hi hge]; simp only [eq_of_beq h]; rfl
    conv => whnf
    exact Tells.of (r1 := .tup [int1 0, bl false]) (by rw [e4]; rfl) (Tells.mk (DW.tupl (DWl.cons (DW.int rfl) (DWl.cons (DW.bool rfl) DWl.nil))))
  · rename_i i hi e1 e0
    have ha := at_zero ‹(bif decide ((0 : Int) < (s.size : Int)) then byteAt s (Int.toNat 0) == 45 else false) = false›
    have hf := form ha ‹(bif (s.size : Int) == ((0 : Nat) : Int) then true else bif byteAt s (Int.toNat 0) == 48 then decide ((1 : Int) < (s.size : Int)) else false) = false›
    have hge : s.data.toList.length ≤ i.1 := by have := of_decide_eq_false e1; rw [sz_data] at this; omega
    have hne : ¬ i.2 = -9223372036854775808 := fun e => by rw [e] at h; cases h
    have e4 : numO s.data.toList = some (-i.2) := by rw [hf.2, loop_end hi hge]; exact (if_neg (by decide)).trans (if_neg hne)
    have e5 : IntKind.i64.wrap (0 - i.2) = -i.2 := by have := hi.2.1; have := hi.2.2.1; rw [wrapI (by omega) (by omega)]; omega
    conv => whnf
    exact Tells.of (r1 := .tup [int1 (-i.2), bl true]) (by rw [e4]; rfl) (Tells.mk (DW.tupl (DWl.cons (DW.int e5) (DWl.cons (DW.bool rfl) DWl.nil))))
end Go.Proofs.YtphgcgggbbcjgaaDoor
