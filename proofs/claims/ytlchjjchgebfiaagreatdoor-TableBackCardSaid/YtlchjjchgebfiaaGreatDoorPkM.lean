/- Write, as the document writes: a cell. -/
import Derived.Test.YtlchjjchgebfiaaGreatDoorPkX
import Derived.Test.YtlchjjchgebfiaaGreatDoorPkG
import Derived.Test.YtlchjjchgebfiaaGreatDoorPkK
import Derived.ArgAppend

namespace Go.Proofs.YtlchjjchgebfiaaGreatDoor
open Go.RowKit Go.Dl
attribute [local irreducible] Tri SCall TSem ECall Drawn DFun QSem PSem PCall GCall MCall Round Weak dloadE OW DWl Tells IntKind.wrap Retold ESem
def plain0 (s : ByteArray) (alone : Bool) : Bool := bif s != emB then true else !alone
def plainI (s : ByteArray) (alone : Bool) (i : Nat) : Bool := bif (s.data.toList.take i).any spc then false else plain0 s alone
def qB (s : ByteArray) (i : Nat) : ByteArray := quoB ++ bs ((s.data.toList.take i).flatMap dblQ)
theorem plain_end (s : ByteArray) (alone : Bool) {i : Nat} (hi : s.size ≤ i) : plainI s alone i = !wrT s alone := by
  unfold plainI wrT plain0
  rw [List.take_of_length_le (by rw [sz_len]; exact hi)]
  cases s.data.toList.any spc with
  | true => rfl
  | false =>
    show (bif !(s == emB) then true else !alone) = !(bif s == emB then alone else false)
    cases s == emB <;> cases alone <;> rfl
theorem spc_is {s : ByteArray} {i : Nat} : spc (s.data.toList.getD i 0) = (byteAt s i == 44 || (byteAt s i == 34 || (byteAt s i == 10 || byteAt s i == 13))) := by
  unfold spc byteAt
  rw [show (((s.data.toList.getD i 0).toNat : Int) == 44) = (s.data.toList.getD i 0 == UInt8.ofNat 44) from u8_int _ 44 (by decide)]
  rw [show (((s.data.toList.getD i 0).toNat : Int) == 34) = (s.data.toList.getD i 0 == UInt8.ofNat 34) from u8_int _ 34 (by decide)]
  rw [show (((s.data.toList.getD i 0).toNat : Int) == 10) = (s.data.toList.getD i 0 == UInt8.ofNat 10) from u8_int _ 10 (by decide)]
  rw [show (((s.data.toList.getD i 0).toNat : Int) == 13) = (s.data.toList.getD i 0 == UInt8.ofNat 13) from u8_int _ 13 (by decide)]
  rfl
theorem take_at {s : ByteArray} {i : Nat} (h : i < s.size) : s.data.toList.take (i + 1) = s.data.toList.take i ++ [s.data.toList.getD i 0] := take_succ (by rw [sz_len]; exact h)
theorem plain_bad {s : ByteArray} {alone : Bool} {i : Nat} (h : i < s.size) (hb : spc (s.data.toList.getD i 0) = true) : false = plainI s alone (i + 1) := by
  rw [plainI, take_at h, List.any_append, List.any_cons, hb, Bool.true_or, Bool.or_true]; rfl
theorem plain_stay {s : ByteArray} {alone : Bool} {i : Nat} (h : i < s.size) (hb : spc (s.data.toList.getD i 0) = false) : plainI s alone i = plainI s alone (i + 1) := by
  rw [plainI, plainI, take_at h, List.any_append, List.any_cons, hb, List.any_nil, Bool.or_false, Bool.or_false]
theorem spc_44 {s : ByteArray} {i : Nat} (h : (byteAt s (i : Int).toNat == 44) = true) : spc (s.data.toList.getD i 0) = true := by
  rw [Int.toNat_natCast] at h
  rw [spc_is, h]; rfl
theorem spc_10 {s : ByteArray} {i : Nat} (h : (byteAt s (i : Int).toNat == 10) = true) : spc (s.data.toList.getD i 0) = true := by
  rw [Int.toNat_natCast] at h
  rw [spc_is, h, Bool.true_or, Bool.or_true, Bool.or_true]
theorem spc_13 {s : ByteArray} {i : Nat} (h : (byteAt s (i : Int).toNat == 13) = true) : spc (s.data.toList.getD i 0) = true := by
  rw [Int.toNat_natCast] at h
  rw [spc_is, h, Bool.or_true, Bool.or_true, Bool.or_true]
theorem spc_34 {s : ByteArray} {i : Nat} (h : (byteAt s (i : Int).toNat == 34) = true) : spc (s.data.toList.getD i 0) = true := by
  rw [Int.toNat_natCast] at h
  rw [spc_is, h, Bool.true_or, Bool.or_true]
theorem spc_no {s : ByteArray} {i : Nat} (h : (byteAt s (i : Int).toNat == 44) = false) (h1 : (byteAt s (i : Int).toNat == 10) = false) (h2 : (byteAt s (i : Int).toNat == 13) = false) (h3 : (byteAt s (i : Int).toNat == 34) = false) : spc (s.data.toList.getD i 0) = false := by
  rw [Int.toNat_natCast] at h h1 h2 h3
  rw [spc_is, h, h1, h2, h3]; rfl
theorem byte_isK {x y : Int} (h : (x == y) = true) (z : Int) : (x == z) = (y == z) := by rw [eq_of_beq h]
theorem bs_app (a b : List UInt8) : bs (a ++ b) = bs a ++ bs b := by
  apply ByteArray.ext
  rw [ByteArray.data_append]
  show (a ++ b).toArray = a.toArray ++ b.toArray
  simp
theorem q_next {s : ByteArray} {i : Nat} (h : i < s.size) : qB s (i + 1) = qB s i ++ bs (dblQ (s.data.toList.getD i 0)) := by
  rw [qB, qB, take_at h, List.flatMap_append, bs_app, ← app_asc]
  simp
theorem at_34 {s : ByteArray} {i : Nat} (h : (byteAt s (i : Int).toNat == 34) = true) : s.data.toList.getD i 0 = 34 := by
  rw [Int.toNat_natCast, show (byteAt s i == 34) = (s.data.toList.getD i 0 == UInt8.ofNat 34) from u8_int _ 34 (by decide)] at h
  exact eq_of_beq h
theorem q_dbl {s : ByteArray} {i : Nat} (hi : i < s.size) (h : (byteAt s (i : Int).toNat == 34) = true) : qB s (i + 1) = qB s i ++ quoB ++ byB s i := by
  rw [q_next hi, app_asc, at_34 h, byB, at_34 h]
  rfl
theorem not_34 {s : ByteArray} {i : Nat} (h : (byteAt s (i : Int).toNat == 34) = false) : ¬ s.data.toList.getD i 0 = 34 := by
  rw [Int.toNat_natCast, show (byteAt s i == 34) = (s.data.toList.getD i 0 == UInt8.ofNat 34) from u8_int _ 34 (by decide)] at h
  exact fun e => by rw [e] at h; cases h
theorem q_one {s : ByteArray} {i : Nat} (hi : i < s.size) (h : ¬ s.data.toList.getD i 0 = 34) : qB s (i + 1) = qB s i ++ byB s i := by
  rw [q_next hi, dblQ, if_neg h]
  rfl
theorem ne34 {s : ByteArray} {i : Nat} {c : Int} (h : (byteAt s (i : Int).toNat == c) = true) (hc : (c == 34) = false) : ¬ s.data.toList.getD i 0 = 34 := not_34 (by rw [byte_isK h]; exact hc)
theorem q_size {s : ByteArray} : ∀ {i : Nat}, (qB s i).size ≤ 2 * s.size + 1 := by
  intro i
  rw [qB, ByteArray.size_append, bs_size]
  have h := dbl_len (s.data.toList.take i)
  have h2 : (s.data.toList.take i).length ≤ s.size := by rw [← sz_len, List.length_take]; omega
  have : quoB.size = 1 := rfl
  omega
theorem q_end {s : ByteArray} {i : Nat} (hi : s.size ≤ i) : qB s i = quoB ++ repQ s := by
  rw [qB, List.take_of_length_le (by rw [sz_len]; exact hi)]; rfl
set_option maxRecDepth 20000 in
theorem q_b2 {s : ByteArray} (i : Nat) (hs : s.size ≤ 1024) : ((qB s i).size + 1) * Tryz.prog.types[5].bytes ≤ 140737488355328 := by
  have := q_size (s := s) (i := i)
  show ((qB s i).size + 1) * 1 ≤ _
  omega
theorem q_b3 {s : ByteArray} (i : Nat) (hs : s.size ≤ 1024) : (qB s i).size + 1 ≤ maxLen := by
  have := q_size (s := s) (i := i)
  simp only [maxLen]; omega
set_option maxRecDepth 20000 in
theorem q_b4 {s : ByteArray} (i : Nat) (hs : s.size ≤ 1024) : ((qB s i).size + 1 + 1) * Tryz.prog.types[5].bytes ≤ 140737488355328 := by
  have := q_size (s := s) (i := i)
  show ((qB s i).size + 1 + 1) * 1 ≤ _
  omega
theorem q_b5 {s : ByteArray} (i : Nat) (hs : s.size ≤ 1024) : (qB s i).size + 1 + 1 ≤ maxLen := by
  have := q_size (s := s) (i := i)
  simp only [maxLen]; omega
set_option maxRecDepth 20000 in
theorem q_l1 {d : DV} (x : ByteArray) : (x.size + 1) * Tryz.prog.types[5].size ≤ ((bytesD x).take (x.size * 1) ++ [d]).length := by
  rw [bytesD_take, List.length_append, bytesD_len]
  show (x.size + 1) * 1 ≤ x.size + 1
  omega
theorem q_two {s : ByteArray} {i : Nat} (hi : i < s.size) (h : (byteAt s (i : Int).toNat == 34) = true) : ((bytesD (qB s i)).take ((qB s i).size * 1) ++ [DV.v (.int .u8 34)]).take (((qB s i).size + 1) * 1) ++ [.v (.int .u8 (byteAt s (i : Int).toNat))] = bytesD (qB s (i + 1)) := by
  rw [List.take_of_length_le (by rw [bytesD_take, List.length_append, bytesD_len, List.length_singleton]; omega), q_dbl hi h, bytesD_take, bytesD_app, bytesD_app]
  rfl
theorem q_twoN {s : ByteArray} {i : Nat} (hi : i < s.size) (h : (byteAt s (i : Int).toNat == 34) = true) : (qB s i).size + 1 + 1 = (qB s (i + 1)).size := by
  rw [q_dbl hi h, ByteArray.size_append, ByteArray.size_append]
  have h1 : quoB.size = 1 := rfl
  have h2 : (byB s i).size = 1 := rfl
  omega
theorem size_pushQ (s : ByteArray) (i : Nat) : (qB s i ++ quoB).size = (qB s i).size + 1 := by rw [ByteArray.size_append]; rfl
theorem bytes_pushQ (s : ByteArray) (i : Nat) : ((bytesD (qB s i)).take ((qB s i).size * 1) ++ [DV.v (.int .u8 34)]).take ((qB s i).size + 1) = bytesD (qB s i ++ quoB) := by
  rw [List.take_of_length_le (by rw [bytesD_take, List.length_append, bytesD_len, List.length_singleton]; omega), bytesD_take, bytesD_app]
  rfl
def qSt (s : ByteArray) (alone : Bool) (i : Nat) : St := ⟨0, tmOf [(0, strV s), (4, strV emB), (5, bl (plainI s alone i)), (6, .arr 0 (qB s i).size), (7, int1 i)], .of [(0, ⟨5, 1, bytesD (qB s i)⟩)] 1⟩
theorem q0_size (s : ByteArray) : 1 = (qB s 0).size := rfl
theorem q0_bytes (s : ByteArray) : [DV.v (.int .u8 34)] = bytesD (qB s 0) := rfl
theorem plain_0 (s : ByteArray) (alone : Bool) : plain0 s alone = plainI s alone 0 := rfl
attribute [local irreducible] bytesD byteAt plainI qB repQ wrT spc
set_option maxRecDepth 20000 in
set_option maxHeartbeats 1000000 in
set_option pp.maxSteps 800 in
theorem quoted79_D (s : ByteArray) (alone : Bool) (hs : s.size ≤ 1024) : DPure Tryz.prog 79 [strV s, bl alone] (strV (wrB s alone)) := by
  refine DFun.data (DFun.body Tryz.func79 rfl (by kernel_rfl) ?_)
  repeat' (first | with_reducible rfl | ((conv => whnf); first | refine And.intro ?_ ?_ | (intro h; first | with_reducible exact tf_no h | with_reducible exact ft_no h | exact Bool.noConfusion h | with_reducible exact h | (have ht : true = true := h; clear ht h) | skip) | ((with_reducible refine DWl.mark ?_); repeat' (first | refine DWl.cons ?_ ?_ | exact DWl.nil | exact DW.same _ rfl | exact DW.ref _ _ _ rfl | exact DW.arr _ _ _ rfl | exact DW.sub _ _ _ _ rfl | exact DW.nilLst _ | refine DW.aggl ?_ | refine DW.tupl ?_ | refine DW.clol ?_ ?_ | refine DW.int ?_ | refine DW.bool ?_ | refine DW.str ?_)) | ((with_reducible refine ECall.mark ?_); first | refine ECall.only ?_ (fun h => nomatch h) | refine ECall.only ?_ ?_) | ((with_reducible refine Drawn.mark ?_); first | refine Drawn.quiet (by kernel_rfl) ?_) | refine dcell_ok rfl ?_ | refine AppC.new ?_))
  all_goals first | (with_reducible refine enters_mark ?_; kernel_rfl) | (with_reducible refine boolT_mark ?_; kernel_rfl) | rfl | trivial | assumption | exact Nat.le_of_ble_eq_true rfl | (show entersB _ _ = true; kernel_rfl) | exact DW.same _ rfl | exact DW.ref _ _ _ rfl | exact DW.arr _ _ _ rfl | refine DW.int ?_ | refine dvb ?_ | refine dvi ?_ | exact OW.cells rfl rfl (DWl.same rfl) | exact Nat.zero_le _ | omega | skip
  all_goals repeat' (first | refine OW.cells rfl rfl ?_ | exact DW.nilArr _ rfl | refine DWl.cons ?_ ?_ | exact DWl.nil | exact DW.same _ rfl | exact DW.ref _ _ _ rfl | exact DW.arr _ _ _ rfl | exact DW.sub _ _ _ _ rfl | exact DW.nilLst _ | refine DW.aggl ?_ | refine DW.tupl ?_ | refine DW.clol ?_ ?_)
  all_goals try ((conv => whnf); with_reducible first | refine Round.mark ?_ | refine Tells.mark ?_ | refine Retold.mark ?_)
  all_goals try first | (show (_ : Bool) = _; simp_all; done) | (show (_ : Int) < _; simp at *; omega) | (show (_ : Int) ≤ _; simp at *; omega) | (show (_ : Nat) < _; simp at *; omega) | (show (_ : Nat) ≤ _; simp at *; omega)
  conv => whnf
  refine Tri.loop (qSt s alone) (fun i => i ≤ s.size) (fun i => s.size - i) 0 (by kernel_rfl) (Weak.list [(0, some 0)] [] (by kernel_rfl) ?_ ?_) (Nat.zero_le _) ?_
  · repeat' (first | exact plain_0 s alone | exact q0_size s | exact DWl.eq (q0_bytes s) (bytesD_all _) | exact DW.same _ rfl | exact DW.ref _ _ _ rfl | exact DW.arr _ _ _ rfl | exact OW.cells rfl rfl (DWl.same rfl) | refine OW.cells rfl rfl ?_ | refine DWl.cons ?_ ?_ | exact DWl.nil | exact DW.nilArr _ rfl | exact DW.nilLst _ | refine DW.clol ?_ ?_ | refine DW.aggl ?_ | refine DW.tupl ?_ | refine DW.int ?_ | refine DW.bool ?_ | refine DW.str ?_ | refine DW.arrE rfl ?_ | ((conv => whnf); first | refine And.intro ?_ ?_ | trivial))
  · repeat' (first | exact plain_0 s alone | exact q0_size s | exact DWl.eq (q0_bytes s) (bytesD_all _) | exact DW.same _ rfl | exact DW.ref _ _ _ rfl | exact DW.arr _ _ _ rfl | exact OW.cells rfl rfl (DWl.same rfl) | refine OW.cells rfl rfl ?_ | refine DWl.cons ?_ ?_ | exact DWl.nil | exact DW.nilArr _ rfl | exact DW.nilLst _ | refine DW.clol ?_ ?_ | refine DW.aggl ?_ | refine DW.tupl ?_ | refine DW.int ?_ | refine DW.bool ?_ | refine DW.str ?_ | refine DW.arrE rfl ?_ | ((conv => whnf); first | refine And.intro ?_ ?_ | trivial))
  intro i hi
  show dcode _ _ _ _ (qSt s alone i) _
  repeat' (first | with_reducible rfl | ((conv => whnf); first | refine And.intro ?_ ?_ | (intro h; first | with_reducible exact tf_no h | with_reducible exact ft_no h | exact Bool.noConfusion h | with_reducible exact h | (have ht : true = true := h; clear ht h) | skip) | ((with_reducible refine DWl.mark ?_); repeat' (first | refine DWl.cons ?_ ?_ | exact DWl.nil | exact DW.same _ rfl | exact DW.ref _ _ _ rfl | exact DW.arr _ _ _ rfl | exact DW.sub _ _ _ _ rfl | exact DW.nilLst _ | refine DW.aggl ?_ | refine DW.tupl ?_ | refine DW.clol ?_ ?_ | refine DW.int ?_ | refine DW.bool ?_ | refine DW.str ?_)) | ((with_reducible refine ex_mark ?_); first | refine dq_bstr (qB s i ++ quoB) Tryz.underlying63 Tryz.underlying5 Tryz.underlying9 rfl rfl rfl ?_ ?_) | ((with_reducible refine ECall.mark ?_); first | refine ECall.only ?_ (fun h => nomatch h) | refine ECall.only ?_ ?_) | ((with_reducible refine Drawn.mark ?_); first | refine Drawn.quiet (by kernel_rfl) ?_) | refine dcell_ok rfl ?_ | refine AppC.new ?_))
  all_goals try ((conv => whnf); with_reducible refine Round.mark ?_)
  all_goals try first | ((with_reducible show Option.isSome (slElem _ _) = true); kernel_rfl) | ((with_reducible show slElem _ _ = some _); kernel_rfl) | ((with_reducible refine enters_mark ?_); kernel_rfl) | (with_reducible assumption) | ((with_reducible show List.all _ DV.one = true); rfl) | ((with_reducible show (_ : Nat) = _); rfl) | ((with_reducible show (_ == true) = true); simpa using h) | ((with_reducible show (_ : Nat) ≤ _); exact Nat.le_of_ble_eq_true rfl) | ((with_reducible show (_ : Int) ≤ _); first | omega | decide) | ((with_reducible show (_ : Int) < _); first | omega | decide) | ((with_reducible show (_ : Nat) < _); omega) | ((with_reducible show (_ : Nat) ≤ _); omega)
  all_goals try (first | (rfl; done) | (exact of_decide_eq_true (by assumption); done) | (exact ln_b1 _; done) | (exact q_b2 _ hs; done) | (exact q_b3 _ hs; done) | (exact q_b4 _ hs; done) | (exact q_b5 _ hs; done) | (exact q_l1 _; done))
  · rename_i e0 e1
    have hlt := lt_int e0
    refine Round.go (fun _ => i + 1) hlt (by show s.size - (i + 1) < s.size - i; omega) (Weak.list [(0, some 2)] [] (by kernel_rfl) ?_ ?_)
    · repeat' (first | exact wsucc hlt (by omega) | exact plain_bad hlt (spc_44 h) | exact DWl.eq ((bytes_push s (qB s i) i).trans (congrArg bytesD (q_one hlt (ne34 h rfl)).symm)) (bytesD_all _) | exact (size_push s (qB s i) i).trans (congrArg ByteArray.size (q_one hlt (ne34 h rfl)).symm) | exact DW.same _ rfl | exact DW.ref _ _ _ rfl | exact DW.arr _ _ _ rfl | exact OW.cells rfl rfl (DWl.same rfl) | refine OW.cells rfl rfl ?_ | refine DWl.cons ?_ ?_ | exact DWl.nil | exact DW.nilArr _ rfl | exact DW.nilLst _ | refine DW.clol ?_ ?_ | refine DW.aggl ?_ | refine DW.tupl ?_ | refine DW.int ?_ | refine DW.bool ?_ | refine DW.str ?_ | refine DW.arrE rfl ?_ | ((conv => whnf); first | refine And.intro ?_ ?_ | trivial))
    · repeat' (first | exact wsucc hlt (by omega) | exact plain_bad hlt (spc_44 h) | exact DWl.eq ((bytes_push s (qB s i) i).trans (congrArg bytesD (q_one hlt (ne34 h rfl)).symm)) (bytesD_all _) | exact (size_push s (qB s i) i).trans (congrArg ByteArray.size (q_one hlt (ne34 h rfl)).symm) | exact DW.same _ rfl | exact DW.ref _ _ _ rfl | exact DW.arr _ _ _ rfl | exact OW.cells rfl rfl (DWl.same rfl) | refine OW.cells rfl rfl ?_ | refine DWl.cons ?_ ?_ | exact DWl.nil | exact DW.nilArr _ rfl | exact DW.nilLst _ | refine DW.clol ?_ ?_ | refine DW.aggl ?_ | refine DW.tupl ?_ | refine DW.int ?_ | refine DW.bool ?_ | refine DW.str ?_ | refine DW.arrE rfl ?_ | ((conv => whnf); first | refine And.intro ?_ ?_ | trivial))
  · rename_i e0 e1 e2
    exact not_t e1 e2
  · rename_i e0 e1 e2
    exact not_t e1 e2
  · rename_i e0 e1 e2
    have hlt := lt_int e0
    refine Round.go (fun _ => i + 1) hlt (by show s.size - (i + 1) < s.size - i; omega) (Weak.list [(0, some 2)] [] (by kernel_rfl) ?_ ?_)
    · repeat' (first | exact wsucc hlt (by omega) | exact plain_bad hlt (spc_10 h) | exact DWl.eq ((bytes_push s (qB s i) i).trans (congrArg bytesD (q_one hlt (ne34 h rfl)).symm)) (bytesD_all _) | exact (size_push s (qB s i) i).trans (congrArg ByteArray.size (q_one hlt (ne34 h rfl)).symm) | exact DW.same _ rfl | exact DW.ref _ _ _ rfl | exact DW.arr _ _ _ rfl | exact OW.cells rfl rfl (DWl.same rfl) | refine OW.cells rfl rfl ?_ | refine DWl.cons ?_ ?_ | exact DWl.nil | exact DW.nilArr _ rfl | exact DW.nilLst _ | refine DW.clol ?_ ?_ | refine DW.aggl ?_ | refine DW.tupl ?_ | refine DW.int ?_ | refine DW.bool ?_ | refine DW.str ?_ | refine DW.arrE rfl ?_ | ((conv => whnf); first | refine And.intro ?_ ?_ | trivial))
    · repeat' (first | exact wsucc hlt (by omega) | exact plain_bad hlt (spc_10 h) | exact DWl.eq ((bytes_push s (qB s i) i).trans (congrArg bytesD (q_one hlt (ne34 h rfl)).symm)) (bytesD_all _) | exact (size_push s (qB s i) i).trans (congrArg ByteArray.size (q_one hlt (ne34 h rfl)).symm) | exact DW.same _ rfl | exact DW.ref _ _ _ rfl | exact DW.arr _ _ _ rfl | exact OW.cells rfl rfl (DWl.same rfl) | refine OW.cells rfl rfl ?_ | refine DWl.cons ?_ ?_ | exact DWl.nil | exact DW.nilArr _ rfl | exact DW.nilLst _ | refine DW.clol ?_ ?_ | refine DW.aggl ?_ | refine DW.tupl ?_ | refine DW.int ?_ | refine DW.bool ?_ | refine DW.str ?_ | refine DW.arrE rfl ?_ | ((conv => whnf); first | refine And.intro ?_ ?_ | trivial))
  · rename_i e0 e1 e2 e3
    exact not_t e2 e3
  · rename_i e0 e1 e2 e3
    exact not_t e2 e3
  · rename_i e0 e1 e2
    have hlt := lt_int e0
    refine Round.go (fun _ => i + 1) hlt (by show s.size - (i + 1) < s.size - i; omega) (Weak.list [(0, some 2)] [] (by kernel_rfl) ?_ ?_)
    · repeat' (first | exact wsucc hlt (by omega) | exact plain_bad hlt (spc_13 h) | exact DWl.eq ((bytes_push s (qB s i) i).trans (congrArg bytesD (q_one hlt (ne34 h rfl)).symm)) (bytesD_all _) | exact (size_push s (qB s i) i).trans (congrArg ByteArray.size (q_one hlt (ne34 h rfl)).symm) | exact DW.same _ rfl | exact DW.ref _ _ _ rfl | exact DW.arr _ _ _ rfl | exact OW.cells rfl rfl (DWl.same rfl) | refine OW.cells rfl rfl ?_ | refine DWl.cons ?_ ?_ | exact DWl.nil | exact DW.nilArr _ rfl | exact DW.nilLst _ | refine DW.clol ?_ ?_ | refine DW.aggl ?_ | refine DW.tupl ?_ | refine DW.int ?_ | refine DW.bool ?_ | refine DW.str ?_ | refine DW.arrE rfl ?_ | ((conv => whnf); first | refine And.intro ?_ ?_ | trivial))
    · repeat' (first | exact wsucc hlt (by omega) | exact plain_bad hlt (spc_13 h) | exact DWl.eq ((bytes_push s (qB s i) i).trans (congrArg bytesD (q_one hlt (ne34 h rfl)).symm)) (bytesD_all _) | exact (size_push s (qB s i) i).trans (congrArg ByteArray.size (q_one hlt (ne34 h rfl)).symm) | exact DW.same _ rfl | exact DW.ref _ _ _ rfl | exact DW.arr _ _ _ rfl | exact OW.cells rfl rfl (DWl.same rfl) | refine OW.cells rfl rfl ?_ | refine DWl.cons ?_ ?_ | exact DWl.nil | exact DW.nilArr _ rfl | exact DW.nilLst _ | refine DW.clol ?_ ?_ | refine DW.aggl ?_ | refine DW.tupl ?_ | refine DW.int ?_ | refine DW.bool ?_ | refine DW.str ?_ | refine DW.arrE rfl ?_ | ((conv => whnf); first | refine And.intro ?_ ?_ | trivial))
  · rename_i e0 e1 e2 e3
    have hlt := lt_int e0
    refine Round.go (fun _ => i + 1) hlt (by show s.size - (i + 1) < s.size - i; omega) (Weak.list [(0, some 4)] [] (by kernel_rfl) ?_ ?_)
    · repeat' (first | exact wsucc hlt (by omega) | exact plain_bad hlt (spc_34 h) | exact DWl.eq (q_two hlt h) (bytesD_all _) | exact q_twoN hlt h | exact DW.same _ rfl | exact DW.ref _ _ _ rfl | exact DW.arr _ _ _ rfl | exact OW.cells rfl rfl (DWl.same rfl) | refine OW.cells rfl rfl ?_ | refine DWl.cons ?_ ?_ | exact DWl.nil | exact DW.nilArr _ rfl | exact DW.nilLst _ | refine DW.clol ?_ ?_ | refine DW.aggl ?_ | refine DW.tupl ?_ | refine DW.int ?_ | refine DW.bool ?_ | refine DW.str ?_ | refine DW.arrE rfl ?_ | ((conv => whnf); first | refine And.intro ?_ ?_ | trivial))
    · repeat' (first | exact wsucc hlt (by omega) | exact plain_bad hlt (spc_34 h) | exact DWl.eq (q_two hlt h) (bytesD_all _) | exact q_twoN hlt h | exact DW.same _ rfl | exact DW.ref _ _ _ rfl | exact DW.arr _ _ _ rfl | exact OW.cells rfl rfl (DWl.same rfl) | refine OW.cells rfl rfl ?_ | refine DWl.cons ?_ ?_ | exact DWl.nil | exact DW.nilArr _ rfl | exact DW.nilLst _ | refine DW.clol ?_ ?_ | refine DW.aggl ?_ | refine DW.tupl ?_ | refine DW.int ?_ | refine DW.bool ?_ | refine DW.str ?_ | refine DW.arrE rfl ?_ | ((conv => whnf); first | refine And.intro ?_ ?_ | trivial))
  · rename_i e0 e1 e2 e3
    have hlt := lt_int e0
    refine Round.go (fun _ => i + 1) hlt (by show s.size - (i + 1) < s.size - i; omega) (Weak.list [(0, some 2)] [] (by kernel_rfl) ?_ ?_)
    · repeat' (first | exact wsucc hlt (by omega) | exact plain_stay hlt (spc_no e1 e2 e3 h) | exact DWl.eq ((bytes_push s (qB s i) i).trans (congrArg bytesD (q_one hlt (not_34 h)).symm)) (bytesD_all _) | exact (size_push s (qB s i) i).trans (congrArg ByteArray.size (q_one hlt (not_34 h)).symm) | exact DW.same _ rfl | exact DW.ref _ _ _ rfl | exact DW.arr _ _ _ rfl | exact OW.cells rfl rfl (DWl.same rfl) | refine OW.cells rfl rfl ?_ | refine DWl.cons ?_ ?_ | exact DWl.nil | exact DW.nilArr _ rfl | exact DW.nilLst _ | refine DW.clol ?_ ?_ | refine DW.aggl ?_ | refine DW.tupl ?_ | refine DW.int ?_ | refine DW.bool ?_ | refine DW.str ?_ | refine DW.arrE rfl ?_ | ((conv => whnf); first | refine And.intro ?_ ?_ | trivial))
    · repeat' (first | exact wsucc hlt (by omega) | exact plain_stay hlt (spc_no e1 e2 e3 h) | exact DWl.eq ((bytes_push s (qB s i) i).trans (congrArg bytesD (q_one hlt (not_34 h)).symm)) (bytesD_all _) | exact (size_push s (qB s i) i).trans (congrArg ByteArray.size (q_one hlt (not_34 h)).symm) | exact DW.same _ rfl | exact DW.ref _ _ _ rfl | exact DW.arr _ _ _ rfl | exact OW.cells rfl rfl (DWl.same rfl) | refine OW.cells rfl rfl ?_ | refine DWl.cons ?_ ?_ | exact DWl.nil | exact DW.nilArr _ rfl | exact DW.nilLst _ | refine DW.clol ?_ ?_ | refine DW.aggl ?_ | refine DW.tupl ?_ | refine DW.int ?_ | refine DW.bool ?_ | refine DW.str ?_ | refine DW.arrE rfl ?_ | ((conv => whnf); first | refine And.intro ?_ ?_ | trivial))
  · rename_i e0
    have hge := ge_int e0
    have hw : wrT s alone = false := by rw [plain_end s alone hge] at h; simpa using h
    repeat' (first | with_reducible rfl | ((conv => whnf); first | refine And.intro ?_ ?_ | (intro h; first | with_reducible exact tf_no h | with_reducible exact ft_no h | exact Bool.noConfusion h | with_reducible exact h | (have ht : true = true := h; clear ht h) | skip) | ((with_reducible refine DWl.mark ?_); repeat' (first | refine DWl.cons ?_ ?_ | exact DWl.nil | exact DW.same _ rfl | exact DW.ref _ _ _ rfl | exact DW.arr _ _ _ rfl | exact DW.sub _ _ _ _ rfl | exact DW.nilLst _ | refine DW.aggl ?_ | refine DW.tupl ?_ | refine DW.clol ?_ ?_ | refine DW.int ?_ | refine DW.bool ?_ | refine DW.str ?_)) | ((with_reducible refine ECall.mark ?_); first | refine ECall.only ?_ (fun h => nomatch h) | refine ECall.only ?_ ?_) | ((with_reducible refine Drawn.mark ?_); first | refine Drawn.quiet (by kernel_rfl) ?_) | refine dcell_ok rfl ?_ | refine AppC.new ?_))
    all_goals first | (with_reducible refine enters_mark ?_; kernel_rfl) | (with_reducible refine boolT_mark ?_; kernel_rfl) | rfl | trivial | assumption | exact Nat.le_of_ble_eq_true rfl | (show entersB _ _ = true; kernel_rfl) | exact DW.same _ rfl | exact DW.ref _ _ _ rfl | exact DW.arr _ _ _ rfl | refine DW.int ?_ | refine dvb ?_ | refine dvi ?_ | exact OW.cells rfl rfl (DWl.same rfl) | exact Nat.zero_le _ | omega | skip
    all_goals repeat' (first | refine OW.cells rfl rfl ?_ | exact DW.nilArr _ rfl | refine DWl.cons ?_ ?_ | exact DWl.nil | exact DW.same _ rfl | exact DW.ref _ _ _ rfl | exact DW.arr _ _ _ rfl | exact DW.sub _ _ _ _ rfl | exact DW.nilLst _ | refine DW.aggl ?_ | refine DW.tupl ?_ | refine DW.clol ?_ ?_)
    all_goals try ((conv => whnf); with_reducible first | refine Round.mark ?_ | refine Tells.mark ?_ | refine Retold.mark ?_)
    all_goals try first | (show (_ : Bool) = _; simp_all; done) | (show (_ : Int) < _; simp at *; omega) | (show (_ : Int) ≤ _; simp at *; omega) | (show (_ : Nat) < _; simp at *; omega) | (show (_ : Nat) ≤ _; simp at *; omega)
    conv => whnf
    exact Tells.of (r1 := strV s) (wr_no hw).symm (Tells.mk (DW.same _ rfl))
  · rename_i e0
    have hge := ge_int e0
    have hw : wrT s alone = true := by rw [plain_end s alone hge] at h; simpa using h
    repeat' (first | with_reducible rfl | ((conv => whnf); first | refine And.intro ?_ ?_ | (intro h; first | with_reducible exact tf_no h | with_reducible exact ft_no h | exact Bool.noConfusion h | with_reducible exact h | (have ht : true = true := h; clear ht h) | skip) | ((with_reducible refine DWl.mark ?_); repeat' (first | refine DWl.cons ?_ ?_ | exact DWl.nil | exact DW.same _ rfl | exact DW.ref _ _ _ rfl | exact DW.arr _ _ _ rfl | exact DW.sub _ _ _ _ rfl | exact DW.nilLst _ | refine DW.aggl ?_ | refine DW.tupl ?_ | refine DW.clol ?_ ?_ | refine DW.int ?_ | refine DW.bool ?_ | refine DW.str ?_)) | ((with_reducible refine ex_mark ?_); first | refine dq_bstr (qB s i ++ quoB) Tryz.underlying63 Tryz.underlying5 Tryz.underlying9 rfl rfl (size_pushQ s i) (bytes_pushQ s i) ?_) | ((with_reducible refine ECall.mark ?_); first | refine ECall.only ?_ (fun h => nomatch h) | refine ECall.only ?_ ?_) | ((with_reducible refine Drawn.mark ?_); first | refine Drawn.quiet (by kernel_rfl) ?_) | refine dcell_ok rfl ?_ | refine AppC.new ?_))
    all_goals try first | ((with_reducible show Option.isSome (slElem _ _) = true); kernel_rfl) | ((with_reducible show slElem _ _ = some _); kernel_rfl) | ((with_reducible refine enters_mark ?_); kernel_rfl) | (with_reducible assumption) | ((with_reducible show List.all _ DV.one = true); rfl) | ((with_reducible show (_ : Nat) = _); rfl) | ((with_reducible show (_ == true) = true); simpa using h) | ((with_reducible show (_ : Nat) ≤ _); exact Nat.le_of_ble_eq_true rfl) | ((with_reducible show (_ : Int) ≤ _); first | omega | decide) | ((with_reducible show (_ : Int) < _); first | omega | decide) | ((with_reducible show (_ : Nat) < _); omega) | ((with_reducible show (_ : Nat) ≤ _); omega)
    conv => whnf
    exact Tells.of (r1 := strV (qB s i ++ quoB)) (by rw [q_end hge]; exact (wr_yes hw).symm) (Tells.mk (DW.same _ rfl))
end Go.Proofs.YtlchjjchgebfiaaGreatDoor

/- Write, as the document writes: a line, a table. -/
namespace Go.Proofs.YtlchjjchgebfiaaGreatDoor
open Go.RowKit Go.Dl
attribute [local irreducible] Tri SCall TSem ECall Drawn DFun QSem PSem PCall GCall MCall Round Weak dloadE OW DWl Tells IntKind.wrap Retold ESem
def one1 (l : List ByteArray) : Bool := ((l.map strD).length : Int) == 1
def w46St (l : List ByteArray) (i : Nat) : St := ⟨0, tmOf [(0, strs l), (2, strV emB), (3, strV (lineI l (one1 l) i)), (4, int1 i)], .of [] 0⟩
theorem li_yes {l : List ByteArray} {a : Bool} {i : Nat} (h : decide (0 < (i : Int)) = true) : lineI l a i ++ comB ++ wrB (l.getD (i : Int).toNat emB) a = lineI l a (i + 1) := by
  rw [lineI, h, Int.toNat_natCast]; rfl
theorem li_no {l : List ByteArray} {a : Bool} {i : Nat} (h : decide (0 < (i : Int)) = false) : lineI l a i ++ wrB (l.getD (i : Int).toNat emB) a = lineI l a (i + 1) := by
  rw [lineI, h, Int.toNat_natCast]; rfl
theorem li_b {l : List ByteArray} {a : Bool} {i : Nat} (hl : l.length ≤ 64) (hs : ∀ s ∈ l, s.size ≤ 1024) (hi : i ≤ l.length) : (lineI l a i).size ≤ 131264 := by
  have := li_sizeG (a := a) hs hi
  omega
theorem wr_b {s : ByteArray} {a : Bool} (hs : s.size ≤ 1024) : (wrB s a).size ≤ 2050 := by
  have := wrB_size s a
  omega
theorem li_z (l : List ByteArray) (a : Bool) : (⟨#[]⟩ : ByteArray) = lineI l a 0 := rfl
theorem lw_end (l : List ByteArray) (a : Bool) {i : Nat} (hi : i = l.length) : lineI l a i ++ nlB = lineW l a := by subst hi; rfl
attribute [local irreducible] lineI wrB lineW
set_option maxRecDepth 20000 in
set_option maxHeartbeats 1000000 in
set_option pp.maxSteps 800 in
theorem written46_D (l : List ByteArray) (hl : l.length ≤ 64) (hs : ∀ s ∈ l, s.size ≤ 1024) : DPure Tryz.prog 46 [strs l] (strV (lineW l (one1 l))) := by
  have hq := fun s (h : s ∈ l) => quoted79_D s (one1 l) (hs s h)
  unfold one1 at hq
  refine DFun.body Tryz.func46 rfl (by kernel_rfl) ?_
  repeat' (first | with_reducible rfl | ((conv => whnf); first | refine And.intro ?_ ?_ | (intro h; first | with_reducible exact tf_no h | with_reducible exact ft_no h | exact Bool.noConfusion h | with_reducible exact h | (have ht : true = true := h; clear ht h) | skip) | ((with_reducible refine DWl.mark ?_); repeat' (first | refine DWl.cons ?_ ?_ | exact DWl.nil | exact DW.same _ rfl | exact DW.ref _ _ _ rfl | exact DW.arr _ _ _ rfl | exact DW.sub _ _ _ _ rfl | exact DW.nilLst _ | refine DW.aggl ?_ | refine DW.tupl ?_ | refine DW.clol ?_ ?_ | refine DW.int ?_ | refine DW.bool ?_ | refine DW.str ?_)) | ((with_reducible refine ECall.mark ?_); first | refine ECall.only ?_ (fun h => nomatch h) | refine ECall.only ?_ ?_) | ((with_reducible refine Drawn.mark ?_); first | refine Drawn.quiet (by kernel_rfl) ?_) | refine dcell_ok rfl ?_ | refine AppC.new ?_))
  all_goals first | (with_reducible refine enters_mark ?_; kernel_rfl) | (with_reducible refine boolT_mark ?_; kernel_rfl) | rfl | trivial | assumption | exact Nat.le_of_ble_eq_true rfl | (show entersB _ _ = true; kernel_rfl) | exact DW.same _ rfl | exact DW.ref _ _ _ rfl | exact DW.arr _ _ _ rfl | refine DW.int ?_ | refine dvb ?_ | refine dvi ?_ | exact OW.cells rfl rfl (DWl.same rfl) | exact Nat.zero_le _ | omega | skip
  all_goals repeat' (first | refine OW.cells rfl rfl ?_ | exact DW.nilArr _ rfl | refine DWl.cons ?_ ?_ | exact DWl.nil | exact DW.same _ rfl | exact DW.ref _ _ _ rfl | exact DW.arr _ _ _ rfl | exact DW.sub _ _ _ _ rfl | exact DW.nilLst _ | refine DW.aggl ?_ | refine DW.tupl ?_ | refine DW.clol ?_ ?_)
  all_goals try ((conv => whnf); with_reducible first | refine Round.mark ?_ | refine Tells.mark ?_ | refine Retold.mark ?_)
  all_goals try first | (show (_ : Bool) = _; simp_all; done) | (show (_ : Int) < _; simp at *; omega) | (show (_ : Int) ≤ _; simp at *; omega) | (show (_ : Nat) < _; simp at *; omega) | (show (_ : Nat) ≤ _; simp at *; omega)
  conv => whnf
  refine Tri.loop (w46St l) (fun i => i ≤ l.length) (fun i => l.length - i) 0 (by kernel_rfl) (Weak.list [] [] (by kernel_rfl) ?_ ?_) (Nat.zero_le _) ?_
  · repeat' (first | exact li_z l _ | exact DW.same _ rfl | exact DW.ref _ _ _ rfl | exact DW.arr _ _ _ rfl | exact OW.cells rfl rfl (DWl.same rfl) | refine OW.cells rfl rfl ?_ | refine DWl.cons ?_ ?_ | exact DWl.nil | exact DW.nilArr _ rfl | exact DW.nilLst _ | refine DW.clol ?_ ?_ | refine DW.aggl ?_ | refine DW.tupl ?_ | refine DW.int ?_ | refine DW.bool ?_ | refine DW.str ?_ | refine DW.arrE rfl ?_ | ((conv => whnf); first | refine And.intro ?_ ?_ | trivial))
  · repeat' (first | exact li_z l _ | exact DW.same _ rfl | exact DW.ref _ _ _ rfl | exact DW.arr _ _ _ rfl | exact OW.cells rfl rfl (DWl.same rfl) | refine OW.cells rfl rfl ?_ | refine DWl.cons ?_ ?_ | exact DWl.nil | exact DW.nilArr _ rfl | exact DW.nilLst _ | refine DW.clol ?_ ?_ | refine DW.aggl ?_ | refine DW.tupl ?_ | refine DW.int ?_ | refine DW.bool ?_ | refine DW.str ?_ | refine DW.arrE rfl ?_ | ((conv => whnf); first | refine And.intro ?_ ?_ | trivial))
  intro i hi
  show dcode _ _ _ _ (w46St l i) _
  repeat' (first | with_reducible rfl | ((conv => whnf); first | refine And.intro ?_ ?_ | (intro h; first | with_reducible exact tf_no h | with_reducible exact ft_no h | exact Bool.noConfusion h | with_reducible exact h | (have ht : true = true := h; clear ht h) | skip) | ((with_reducible refine DWl.mark ?_); repeat' (first | refine DWl.cons ?_ ?_ | exact DWl.nil | exact DW.same _ rfl | exact DW.ref _ _ _ rfl | exact DW.arr _ _ _ rfl | exact DW.sub _ _ _ _ rfl | exact DW.nilLst _ | refine DW.aggl ?_ | refine DW.tupl ?_ | refine DW.clol ?_ ?_ | refine DW.int ?_ | refine DW.bool ?_ | refine DW.str ?_)) | ((with_reducible refine SCall.mark ?_); first | refine SCall.data (hq _ ?_) rfl rfl ?_ | refine SCall.scal (hq _ ?_) rfl rfl ?_) | ((with_reducible refine PCall.mark ?_); first | refine PCall.mk (hq _ ?_) rfl rfl ?_) | ((with_reducible refine GCall.mark ?_); first | refine GCall.data (fun _ => hq _ ?_) rfl rfl ?_ | refine GCall.scal (fun _ => hq _ ?_) rfl rfl ?_) | ((with_reducible refine MCall.mark ?_); first | refine MCall.data (fun _ => hq _ ?_) rfl rfl ?_ | refine MCall.plain (PCall.mk (hq _ ?_) rfl rfl ?_)) | ((with_reducible refine ECall.mark ?_); first | refine ECall.only ?_ (fun h => nomatch h) | refine ECall.only ?_ ?_) | ((with_reducible refine Drawn.mark ?_); first | refine Drawn.quiet (by kernel_rfl) ?_) | refine dloadE_map (emB) ?_ ?_ | refine dcell_ok rfl ?_ | refine AppC.new ?_))
  all_goals try ((conv => whnf); with_reducible refine Round.mark ?_)
  all_goals try first | ((with_reducible show Option.isSome (slElem _ _) = true); kernel_rfl) | ((with_reducible show slElem _ _ = some _); kernel_rfl) | ((with_reducible refine enters_mark ?_); kernel_rfl) | (with_reducible assumption) | ((with_reducible show List.all _ DV.one = true); rfl) | ((with_reducible show (_ : Nat) = _); rfl) | ((with_reducible show (_ == true) = true); simpa using h) | ((with_reducible show (_ : Nat) ≤ _); exact Nat.le_of_ble_eq_true rfl) | ((with_reducible show (_ : Int) ≤ _); first | omega | decide) | ((with_reducible show (_ : Int) < _); first | omega | decide) | ((with_reducible show (_ : Nat) < _); omega) | ((with_reducible show (_ : Nat) ≤ _); omega)
  · have := li_b (a := one1 l) hl hs hi
    show (lineI l (one1 l) i).size + 1 ≤ _
    omega
  · exact of_decide_eq_true (by assumption)
  · exact lt_of_test (by assumption)
  · exact mem_at (lt_of_test (by assumption))
  · rename_i e0
    have h1 := li_b (a := one1 l) hl hs hi
    have h2 := wr_b (a := one1 l) (hs _ (mem_at (d := emB) (lt_of_test e0)))
    rw [ByteArray.size_append]
    show (lineI l (one1 l) i).size + 1 + (wrB (l.getD (i : Int).toNat emB) (one1 l)).size ≤ _
    omega
  · rename_i e0
    have hlt := lt_of_test e0
    refine Round.go (fun _ => i + 1) hlt (by show l.length - (i + 1) < l.length - i; omega) (Weak.list [] [] (by kernel_rfl) ?_ ?_)
    · repeat' (first | exact wsucc hlt (by omega) | exact li_yes h | exact DW.same _ rfl | exact DW.ref _ _ _ rfl | exact DW.arr _ _ _ rfl | exact OW.cells rfl rfl (DWl.same rfl) | refine OW.cells rfl rfl ?_ | refine DWl.cons ?_ ?_ | exact DWl.nil | exact DW.nilArr _ rfl | exact DW.nilLst _ | refine DW.clol ?_ ?_ | refine DW.aggl ?_ | refine DW.tupl ?_ | refine DW.int ?_ | refine DW.bool ?_ | refine DW.str ?_ | refine DW.arrE rfl ?_ | ((conv => whnf); first | refine And.intro ?_ ?_ | trivial))
    · repeat' (first | exact wsucc hlt (by omega) | exact li_yes h | exact DW.same _ rfl | exact DW.ref _ _ _ rfl | exact DW.arr _ _ _ rfl | exact OW.cells rfl rfl (DWl.same rfl) | refine OW.cells rfl rfl ?_ | refine DWl.cons ?_ ?_ | exact DWl.nil | exact DW.nilArr _ rfl | exact DW.nilLst _ | refine DW.clol ?_ ?_ | refine DW.aggl ?_ | refine DW.tupl ?_ | refine DW.int ?_ | refine DW.bool ?_ | refine DW.str ?_ | refine DW.arrE rfl ?_ | ((conv => whnf); first | refine And.intro ?_ ?_ | trivial))
  · exact of_decide_eq_true (by assumption)
  · exact lt_of_test (by assumption)
  · exact mem_at (lt_of_test (by assumption))
  · rename_i e0
    have h1 := li_b (a := one1 l) hl hs hi
    have h2 := wr_b (a := one1 l) (hs _ (mem_at (d := emB) (lt_of_test e0)))
    show (lineI l (one1 l) i).size + (wrB (l.getD (i : Int).toNat emB) (one1 l)).size ≤ _
    omega
  · rename_i e0
    have hlt := lt_of_test e0
    refine Round.go (fun _ => i + 1) hlt (by show l.length - (i + 1) < l.length - i; omega) (Weak.list [] [] (by kernel_rfl) ?_ ?_)
    · repeat' (first | exact wsucc hlt (by omega) | exact li_no h | exact DW.same _ rfl | exact DW.ref _ _ _ rfl | exact DW.arr _ _ _ rfl | exact OW.cells rfl rfl (DWl.same rfl) | refine OW.cells rfl rfl ?_ | refine DWl.cons ?_ ?_ | exact DWl.nil | exact DW.nilArr _ rfl | exact DW.nilLst _ | refine DW.clol ?_ ?_ | refine DW.aggl ?_ | refine DW.tupl ?_ | refine DW.int ?_ | refine DW.bool ?_ | refine DW.str ?_ | refine DW.arrE rfl ?_ | ((conv => whnf); first | refine And.intro ?_ ?_ | trivial))
    · repeat' (first | exact wsucc hlt (by omega) | exact li_no h | exact DW.same _ rfl | exact DW.ref _ _ _ rfl | exact DW.arr _ _ _ rfl | exact OW.cells rfl rfl (DWl.same rfl) | refine OW.cells rfl rfl ?_ | refine DWl.cons ?_ ?_ | exact DWl.nil | exact DW.nilArr _ rfl | exact DW.nilLst _ | refine DW.clol ?_ ?_ | refine DW.aggl ?_ | refine DW.tupl ?_ | refine DW.int ?_ | refine DW.bool ?_ | refine DW.str ?_ | refine DW.arrE rfl ?_ | ((conv => whnf); first | refine And.intro ?_ ?_ | trivial))
  · have := li_b (a := one1 l) hl hs hi
    show (lineI l (one1 l) i).size + 1 ≤ _
    omega
  · have hi2 : i = l.length := by have := ge_of_test h; omega
    conv => whnf
    exact congrArg (fun x => strV x) (lw_end l _ hi2)
def w15St (t : Tb) (i : Nat) : St := ⟨0, tmOf [(1, .ref 0 0), (2, strV emB), (3, strV (textI t i)), (4, int1 i)], .of [(0, ⟨25, 2, tbD t⟩)] 1⟩
/-- The rows are as long as the head. -/
def Even (t : Tb) : Prop := ∀ l ∈ t.rows, l.length = t.head.length
theorem one_al {t : Tb} {l : List ByteArray} (h : l.length = t.head.length) : one1 l = aloneB t := by
  unfold one1 aloneB
  rw [List.length_map, List.length_map, h]
theorem tx_z (t : Tb) : lineW t.head (one1 t.head) = textI t 0 := by
  rw [one_al (t := t) rfl, textI, emB_app]
theorem tx_n {t : Tb} (he : Even t) {i : Nat} (hi : i < t.rows.length) : textI t i ++ lineW (t.rows.getD (i : Int).toNat []) (one1 (t.rows.getD (i : Int).toNat [])) = textI t (i + 1) := by
  rw [one_al (he _ (mem_at hi)), Int.toNat_natCast]; rfl
theorem lw_b {l : List ByteArray} {a : Bool} (hl : l.length ≤ 64) (hs : ∀ s ∈ l, s.size ≤ 1024) : (lineW l a).size ≤ 131265 := lw_sizeG hl hs
attribute [local irreducible] textI
set_option maxRecDepth 20000 in
set_option maxHeartbeats 1000000 in
set_option pp.maxSteps 800 in
theorem write15_D (t : Tb) (ht : WrG t) (he : Even t) : DPure Tryz.prog 15 [tab t] (strV (textW t)) := by
  have h0 := ht.2 _ (.inl rfl)
  have hw := fun i (h : i < t.rows.length) => written46_D (t.rows.getD (i : Int).toNat []) (ht.2 _ (.inr (mem_at h))).1 (ht.2 _ (.inr (mem_at h))).2
  refine DFun.body Tryz.func15 rfl (by kernel_rfl) ?_
  repeat' (first | with_reducible rfl | ((conv => whnf); first | refine And.intro ?_ ?_ | (intro h; first | with_reducible exact tf_no h | with_reducible exact ft_no h | exact Bool.noConfusion h | with_reducible exact h | (have ht : true = true := h; clear ht h) | skip) | ((with_reducible refine DWl.mark ?_); repeat' (first | refine DWl.cons ?_ ?_ | exact DWl.nil | exact DW.same _ rfl | exact DW.ref _ _ _ rfl | exact DW.arr _ _ _ rfl | exact DW.sub _ _ _ _ rfl | exact DW.nilLst _ | refine DW.aggl ?_ | refine DW.tupl ?_ | refine DW.clol ?_ ?_ | refine DW.int ?_ | refine DW.bool ?_ | refine DW.str ?_)) | ((with_reducible refine SCall.mark ?_); first | refine SCall.data (written46_D t.head h0.1 h0.2) rfl rfl ?_ | refine SCall.scal (written46_D t.head h0.1 h0.2) rfl rfl ?_) | ((with_reducible refine PCall.mark ?_); first | refine PCall.mk (written46_D t.head h0.1 h0.2) rfl rfl ?_) | ((with_reducible refine GCall.mark ?_); first | refine GCall.data (fun _ => written46_D t.head h0.1 h0.2) rfl rfl ?_ | refine GCall.scal (fun _ => written46_D t.head h0.1 h0.2) rfl rfl ?_) | ((with_reducible refine MCall.mark ?_); first | refine MCall.data (fun _ => written46_D t.head h0.1 h0.2) rfl rfl ?_ | refine MCall.plain (PCall.mk (written46_D t.head h0.1 h0.2) rfl rfl ?_)) | ((with_reducible refine ECall.mark ?_); first | refine ECall.only ?_ (fun h => nomatch h) | refine ECall.only ?_ ?_) | ((with_reducible refine Drawn.mark ?_); first | refine Drawn.quiet (by kernel_rfl) ?_) | refine dcell_ok rfl ?_ | refine AppC.new ?_))
  all_goals first | (with_reducible refine enters_mark ?_; kernel_rfl) | (with_reducible refine boolT_mark ?_; kernel_rfl) | rfl | trivial | assumption | exact Nat.le_of_ble_eq_true rfl | (show entersB _ _ = true; kernel_rfl) | exact DW.same _ rfl | exact DW.ref _ _ _ rfl | exact DW.arr _ _ _ rfl | refine DW.int ?_ | refine dvb ?_ | refine dvi ?_ | exact OW.cells rfl rfl (DWl.same rfl) | exact Nat.zero_le _ | omega | skip
  all_goals repeat' (first | refine OW.cells rfl rfl ?_ | exact DW.nilArr _ rfl | refine DWl.cons ?_ ?_ | exact DWl.nil | exact DW.same _ rfl | exact DW.ref _ _ _ rfl | exact DW.arr _ _ _ rfl | exact DW.sub _ _ _ _ rfl | exact DW.nilLst _ | refine DW.aggl ?_ | refine DW.tupl ?_ | refine DW.clol ?_ ?_)
  all_goals try ((conv => whnf); with_reducible first | refine Round.mark ?_ | refine Tells.mark ?_ | refine Retold.mark ?_)
  all_goals try first | (show (_ : Bool) = _; simp_all; done) | (show (_ : Int) < _; simp at *; omega) | (show (_ : Int) ≤ _; simp at *; omega) | (show (_ : Nat) < _; simp at *; omega) | (show (_ : Nat) ≤ _; simp at *; omega)
  conv => whnf
  refine Tri.loop (w15St t) (fun i => i ≤ t.rows.length) (fun i => t.rows.length - i) 0 (by kernel_rfl) (Weak.list [(0, some 0)] [] (by kernel_rfl) ?_ ?_) (Nat.zero_le _) ?_
  · repeat' (first | exact tx_z t | exact DW.same _ rfl | exact DW.ref _ _ _ rfl | exact DW.arr _ _ _ rfl | exact OW.cells rfl rfl (DWl.same rfl) | refine OW.cells rfl rfl ?_ | refine DWl.cons ?_ ?_ | exact DWl.nil | exact DW.nilArr _ rfl | exact DW.nilLst _ | refine DW.clol ?_ ?_ | refine DW.aggl ?_ | refine DW.tupl ?_ | refine DW.int ?_ | refine DW.bool ?_ | refine DW.str ?_ | refine DW.arrE rfl ?_ | ((conv => whnf); first | refine And.intro ?_ ?_ | trivial))
  · repeat' (first | exact tx_z t | exact DW.same _ rfl | exact DW.ref _ _ _ rfl | exact DW.arr _ _ _ rfl | exact OW.cells rfl rfl (DWl.same rfl) | refine OW.cells rfl rfl ?_ | refine DWl.cons ?_ ?_ | exact DWl.nil | exact DW.nilArr _ rfl | exact DW.nilLst _ | refine DW.clol ?_ ?_ | refine DW.aggl ?_ | refine DW.tupl ?_ | refine DW.int ?_ | refine DW.bool ?_ | refine DW.str ?_ | refine DW.arrE rfl ?_ | ((conv => whnf); first | refine And.intro ?_ ?_ | trivial))
  intro i hi
  show dcode _ _ _ _ (w15St t i) _
  repeat' (first | with_reducible rfl | ((conv => whnf); first | refine And.intro ?_ ?_ | (intro h; first | with_reducible exact tf_no h | with_reducible exact ft_no h | exact Bool.noConfusion h | with_reducible exact h | (have ht : true = true := h; clear ht h) | skip) | ((with_reducible refine DWl.mark ?_); repeat' (first | refine DWl.cons ?_ ?_ | exact DWl.nil | exact DW.same _ rfl | exact DW.ref _ _ _ rfl | exact DW.arr _ _ _ rfl | exact DW.sub _ _ _ _ rfl | exact DW.nilLst _ | refine DW.aggl ?_ | refine DW.tupl ?_ | refine DW.clol ?_ ?_ | refine DW.int ?_ | refine DW.bool ?_ | refine DW.str ?_)) | ((with_reducible refine SCall.mark ?_); first | refine SCall.data (hw _ ?_) rfl rfl ?_ | refine SCall.scal (hw _ ?_) rfl rfl ?_) | ((with_reducible refine PCall.mark ?_); first | refine PCall.mk (hw _ ?_) rfl rfl ?_) | ((with_reducible refine GCall.mark ?_); first | refine GCall.data (fun _ => hw _ ?_) rfl rfl ?_ | refine GCall.scal (fun _ => hw _ ?_) rfl rfl ?_) | ((with_reducible refine MCall.mark ?_); first | refine MCall.data (fun _ => hw _ ?_) rfl rfl ?_ | refine MCall.plain (PCall.mk (hw _ ?_) rfl rfl ?_)) | ((with_reducible refine ECall.mark ?_); first | refine ECall.only ?_ (fun h => nomatch h) | refine ECall.only ?_ ?_) | ((with_reducible refine Drawn.mark ?_); first | refine Drawn.quiet (by kernel_rfl) ?_) | refine dloadE_map (([] : List ByteArray)) ?_ ?_ | refine dcell_ok rfl ?_ | refine AppC.new ?_))
  all_goals try ((conv => whnf); with_reducible refine Round.mark ?_)
  all_goals try first | ((with_reducible show Option.isSome (slElem _ _) = true); kernel_rfl) | ((with_reducible show slElem _ _ = some _); kernel_rfl) | ((with_reducible refine enters_mark ?_); kernel_rfl) | (with_reducible assumption) | ((with_reducible show List.all _ DV.one = true); rfl) | ((with_reducible show (_ : Nat) = _); rfl) | ((with_reducible show (_ == true) = true); simpa using h) | ((with_reducible show (_ : Nat) ≤ _); exact Nat.le_of_ble_eq_true rfl) | ((with_reducible show (_ : Int) ≤ _); first | omega | decide) | ((with_reducible show (_ : Int) < _); first | omega | decide) | ((with_reducible show (_ : Nat) < _); omega) | ((with_reducible show (_ : Nat) ≤ _); omega)
  · exact of_decide_eq_true (by assumption)
  · exact lt_of_test (by assumption)
  · exact lt_of_test (by assumption)
  · have hlt := lt_of_test h
    have h1 := ti_sizeG ht (i := i) hi
    have h2 := lw_b (a := one1 (t.rows.getD (i : Int).toNat [])) (l := t.rows.getD (i : Int).toNat []) (ht.2 _ (.inr (mem_at hlt))).1 (ht.2 _ (.inr (mem_at hlt))).2
    have h3 := ht.1
    have h4 : i ≤ t.rows.length := hi
    omega
  · have hlt := lt_of_test h
    have h3 := ht.1
    refine Round.go (fun _ => i + 1) hlt (by show t.rows.length - (i + 1) < t.rows.length - i; omega) (Weak.list [(0, some 0)] [] (by kernel_rfl) ?_ ?_)
    · repeat' (first | exact wsucc hlt (by omega) | exact tx_n he hlt | exact DW.same _ rfl | exact DW.ref _ _ _ rfl | exact DW.arr _ _ _ rfl | exact OW.cells rfl rfl (DWl.same rfl) | refine OW.cells rfl rfl ?_ | refine DWl.cons ?_ ?_ | exact DWl.nil | exact DW.nilArr _ rfl | exact DW.nilLst _ | refine DW.clol ?_ ?_ | refine DW.aggl ?_ | refine DW.tupl ?_ | refine DW.int ?_ | refine DW.bool ?_ | refine DW.str ?_ | refine DW.arrE rfl ?_ | ((conv => whnf); first | refine And.intro ?_ ?_ | trivial))
    · repeat' (first | exact wsucc hlt (by omega) | exact tx_n he hlt | exact DW.same _ rfl | exact DW.ref _ _ _ rfl | exact DW.arr _ _ _ rfl | exact OW.cells rfl rfl (DWl.same rfl) | refine OW.cells rfl rfl ?_ | refine DWl.cons ?_ ?_ | exact DWl.nil | exact DW.nilArr _ rfl | exact DW.nilLst _ | refine DW.clol ?_ ?_ | refine DW.aggl ?_ | refine DW.tupl ?_ | refine DW.int ?_ | refine DW.bool ?_ | refine DW.str ?_ | refine DW.arrE rfl ?_ | ((conv => whnf); first | refine And.intro ?_ ?_ | trivial))
  · have hi2 : i = t.rows.length := by have := ge_of_test h; have : i ≤ t.rows.length := hi; omega
    subst hi2
    repeat' (first | with_reducible rfl | ((conv => whnf); first | refine And.intro ?_ ?_ | (intro h; first | with_reducible exact tf_no h | with_reducible exact ft_no h | exact Bool.noConfusion h | with_reducible exact h | (have ht : true = true := h; clear ht h) | skip) | ((with_reducible refine DWl.mark ?_); repeat' (first | refine DWl.cons ?_ ?_ | exact DWl.nil | exact DW.same _ rfl | exact DW.ref _ _ _ rfl | exact DW.arr _ _ _ rfl | exact DW.sub _ _ _ _ rfl | exact DW.nilLst _ | refine DW.aggl ?_ | refine DW.tupl ?_ | refine DW.clol ?_ ?_ | refine DW.int ?_ | refine DW.bool ?_ | refine DW.str ?_)) | ((with_reducible refine ECall.mark ?_); first | refine ECall.only ?_ (fun h => nomatch h) | refine ECall.only ?_ ?_) | ((with_reducible refine Drawn.mark ?_); first | refine Drawn.quiet (by kernel_rfl) ?_) | refine dcell_ok rfl ?_ | refine AppC.new ?_))
    all_goals first | (with_reducible refine enters_mark ?_; kernel_rfl) | (with_reducible refine boolT_mark ?_; kernel_rfl) | rfl | trivial | assumption | exact Nat.le_of_ble_eq_true rfl | (show entersB _ _ = true; kernel_rfl) | exact DW.same _ rfl | exact DW.ref _ _ _ rfl | exact DW.arr _ _ _ rfl | refine DW.int ?_ | refine dvb ?_ | refine dvi ?_ | exact OW.cells rfl rfl (DWl.same rfl) | exact Nat.zero_le _ | omega | skip
    all_goals repeat' (first | refine OW.cells rfl rfl ?_ | exact DW.nilArr _ rfl | refine DWl.cons ?_ ?_ | exact DWl.nil | exact DW.same _ rfl | exact DW.ref _ _ _ rfl | exact DW.arr _ _ _ rfl | exact DW.sub _ _ _ _ rfl | exact DW.nilLst _ | refine DW.aggl ?_ | refine DW.tupl ?_ | refine DW.clol ?_ ?_)
    all_goals try ((conv => whnf); with_reducible first | refine Round.mark ?_ | refine Tells.mark ?_ | refine Retold.mark ?_)
    all_goals try first | (show (_ : Bool) = _; simp_all; done) | (show (_ : Int) < _; simp at *; omega) | (show (_ : Int) ≤ _; simp at *; omega) | (show (_ : Nat) < _; simp at *; omega) | (show (_ : Nat) ≤ _; simp at *; omega)
end Go.Proofs.YtlchjjchgebfiaaGreatDoor

/- Draw, as the document draws: a cell: the kit's walk. -/
namespace Go.Proofs.YtlchjjchgebfiaaGreatDoor
open Go Go.RowKit Go.Dl
set_option maxHeartbeats 4000000 in
set_option maxRecDepth 100000 in
theorem drawn75_kit (s : ByteArray) (hs : s.size ≤ 1024) (w : World) : Calls Tryz.prog 75 #[.string s] w fun e w' => e = .returned (.string (drawnB s)) ∧ Below w.heap.size w w' := by
  have hge := grownCap_ge w s.size 0 5
  have h0 := row0_start s w _ hge
  go_enter Tryz.func75, Tryz.ntmps75
  go_wp2
  rw [run_bytes_of_string w 9 63 5 s Tryz.underlying9 Tryz.underlying63 Tryz.underlying5]
  simp only [Result.andThen]
  rw [Oper.upon_value]
  generalize hW : World.alloc _ _ = W0 at h0 ⊢
  generalize hcap : grownCap w s.size 0 5 = cap at hge ⊢
  clear hW hcap
  go_wp2
  go_loopg [4] s.size (fun gg s10 wr => ∃ k : Nat, k ≤ s.size ∧ s.size - k ≤ gg ∧ s10 = .int .i64 k ∧ Aside (Row0 s w.heap.size k w wr))
  case atStart => exact ⟨0, Nat.zero_le _, by omega, rfl, h0⟩
  case round =>
    obtain ⟨k, hk, hg, rfl, hA⟩ := hrel
    by_cases hlt : k < s.size
    · have hlti : (k : Int) < (s.size : Int) := by omega
      have hcell := hA.out.cell k hlt
      rw [celJ, if_neg (Nat.lt_irrefl _)] at hcell
      have hfz := hA.out.frz k hlt
      clear h0
      go_wp2
      all_goals rename_i h1
      all_goals first
        | (have hd : drB (bAt s k) = 63 := by (first | (rw [drB, if_pos (Or.inl (by omega))]; done) | (simp only [beq_iff_eq] at h1; rw [drB, if_pos (by omega)]; done))
           go_roundg (s.size - (k + 1))
           case measure => omega
           case rel => exact ⟨k + 1, by omega, by omega, rfl, row0_step hA.out hlt hd⟩)
        | (have hd : drB (bAt s k) = bAt s k := by
             have h2 : (((bAt s k).toNat : Int) == 127) = false := h1.2
             have h3 : ((bAt s k).toNat : Int) ≠ 127 := fun e => by rw [e] at h2; cases h2
             have h4 := h1.1
             rw [drB, if_neg (by omega)]
           go_roundg (s.size - (k + 1))
           case measure => omega
           case rel => exact ⟨k + 1, by omega, by omega, rfl, row0_stay hA.out hd⟩)
        | skip
    · have hlti : ¬ (k : Int) < (s.size : Int) := by omega
      have hkn : k = s.size := by omega
      subst hkn
      have hb := hA.out.below
      have hback := row0_back hA.out cap
      clear h0
      go_wp2
      go_ret
      exact ⟨rfl, hb⟩
theorem drawn75_D (s : ByteArray) (hs : s.size ≤ 1024) : DPure Tryz.prog 75 [strV s] (strV (drawnB s)) :=
  DPure.kit (args := [.string s]) fun w _ => (drawn75_kit s hs w).mono fun e w' ⟨he, hb⟩ => ⟨_, he, hb, fun F hF => .data (.v _ rfl)⟩
end Go.Proofs.YtlchjjchgebfiaaGreatDoor

/- Draw, as the document draws: a text filled up: the kit's walk. -/
namespace Go.Proofs.YtlchjjchgebfiaaGreatDoor
open Go Go.RowKit Go.Dl
def bvals (x : ByteArray) : List Value := x.data.toList.map fun b => Value.int .u8 b.toNat
theorem bvals_len (x : ByteArray) : (bvals x).length = x.size := by rw [bvals, List.length_map]; exact sz_len x
/-- A slice of bytes that is the call's own, in a world above one. -/
structure FillR (w : World) (x : ByteArray) (v : Value) (wr : World) : Prop where
  below : Below w.heap.size w wr
  row : ∃ g cap, v = .slice (some ⟨g, 0, none⟩) x.size cap ∧ w.heap.size ≤ g ∧ x.size ≤ cap ∧ g < wr.heap.size ∧
    (∀ (j : Nat) u, (bvals x)[j]? = some u → wr.cell? ⟨g, j, none⟩ = some u) ∧
    (∀ j, j < cap → (wr.cell? ⟨g, j, none⟩).isSome = true ∧ wr.frozen? ⟨g, j, none⟩ = false)
theorem fill_start (s : ByteArray) (w : World) (c : Nat) (hc : s.size ≤ c) : FillR w s (.slice (some ⟨w.heap.size, 0, none⟩) s.size c) (w.drew.alloc (.cells (bytesRow s c) 5 ((bytesRow s c).size, (bytesRow s c).size + 1))) := by
  have hsz : (bytesRow s c).size = s.size + (c - s.size) := by simp [bytesRow]
  have hg := heap_alloc_new w.drew (.cells (bytesRow s c) 5 ((bytesRow s c).size, (bytesRow s c).size + 1))
  have hg' : (w.drew.alloc (.cells (bytesRow s c) 5 ((bytesRow s c).size, (bytesRow s c).size + 1))).heap[w.heap.size]? = some (.cells (bytesRow s c) 5 ((bytesRow s c).size, (bytesRow s c).size + 1)) := hg
  refine ⟨(Below.drew (Below.refl _ w)).alloc (Nat.le_refl _) _, w.heap.size, c, rfl, Nat.le_refl _, hc, (Array.getElem?_eq_some_iff.1 hg').1, fun j u hu => ?_, fun j hj => ⟨?_, ?_⟩⟩
  · rw [Lib.cell_of_heap hg']
    rw [bvals, List.getElem?_map] at hu
    unfold bytesRow
    cases hb : s.data.toList[j]? with
    | none => rw [hb] at hu; cases hu
    | some b =>
      rw [hb] at hu
      have hj : j < s.data.size := by have := (List.getElem?_eq_some_iff.1 hb).1; simpa using this
      rw [Array.getElem?_append_left (by simpa using hj), Array.getElem?_map]
      rw [Array.getElem?_toList] at hb
      rw [hb]; exact hu
  · rw [Lib.cell_of_heap hg']
    rw [Array.getElem?_eq_getElem (by omega)]; rfl
  · simp only [World.frozen?, hg']
    simp
    omega
theorem bvals_push (x : ByteArray) (c : UInt8) : bvals (x ++ ⟨#[c]⟩) = bvals x ++ [Value.int .u8 c.toNat] := by
  rw [bvals, bvals, ByteArray.data_append]; simp
theorem push_size1 (x : ByteArray) (c : UInt8) : (x ++ (⟨#[c]⟩ : ByteArray)).size = x.size + 1 := by rw [ByteArray.size_append]; rfl
theorem cell_alloc {w : World} {o : Obj} {a : Addr} (h : a.block < w.heap.size) : (w.alloc o).cell? a = w.cell? a := World.cell?_of_block (heap_alloc_old w o h)
theorem frozen_alloc {w : World} {o : Obj} {a : Addr} (h : a.block < w.heap.size) : (w.alloc o).frozen? a = w.frozen? a := World.frozen?_of_block (heap_alloc_old w o h)
theorem size_alloc (w : World) (o : Obj) : (w.alloc o).heap.size = w.heap.size + 1 := by
  show (w.heap.push o).size = _
  simp
theorem fill_room {w : World} {x : ByteArray} {g cap : Nat} {wr : World} {o : Obj} {c : UInt8} (h : FillR w x (.slice (some ⟨g, 0, none⟩) x.size cap) wr) (hr : x.size + 1 ≤ cap) :
    FillR w (x ++ ⟨#[c]⟩) (.slice (some ⟨g, 0, none⟩) (x.size + 1) cap) ((wr.alloc o).setCells g (0 + x.size * 1) [.int .u8 c.toNat]) := by
  obtain ⟨g', cap', e, h1, h2, h3, h4, h5⟩ := h.row
  cases e
  have hc : ((wr.alloc o).setCells g (0 + x.size * 1) [Value.int .u8 c.toNat]) = (wr.alloc o).setCell ⟨g, x.size, none⟩ (.int .u8 c.toNat) := by
    rw [Nat.mul_one, Nat.zero_add]; rfl
  have hin : ((wr.alloc o).cell? ⟨g, x.size, none⟩).isSome = true := by
    rw [cell_alloc h3]; exact (h5 _ (by omega)).1
  rw [hc]
  refine ⟨(h.below.alloc (Nat.le_of_lt (Nat.lt_of_le_of_lt h1 h3)) o).setCell (p := ⟨g, x.size, none⟩) h1 _, g, cap, by rw [push_size1], h1, by rw [push_size1]; exact hr, by simp [World.setCell]; omega, fun j u hu => ?_, fun j hj => ⟨?_, ?_⟩⟩
  · rw [bvals_push] at hu
    obtain ⟨old, hold⟩ := Option.isSome_iff_exists.1 hin
    by_cases e : j = x.size
    · subst e
      rw [World.cell?_setCell_same _ _ _ hold]
      rw [List.getElem?_append_right (by rw [bvals_len]; exact Nat.le_refl _), bvals_len, Nat.sub_self] at hu
      exact hu
    · rw [World.cell?_setCell_other _ _ _ _ (fun e2 => e (by cases e2; rfl)), cell_alloc h3]
      have hj : j < x.size := by
        have := (List.getElem?_eq_some_iff.1 hu).1
        rw [List.length_append, bvals_len, List.length_singleton] at this
        omega
      rw [List.getElem?_append_left (by rw [bvals_len]; exact hj)] at hu
      exact h4 j u hu
  · by_cases e : j = x.size
    · subst e
      obtain ⟨old, hold⟩ := Option.isSome_iff_exists.1 hin
      rw [World.cell?_setCell_same _ _ _ hold]; rfl
    · rw [World.cell?_setCell_other _ _ _ _ (fun e2 => e (by cases e2; rfl)), cell_alloc h3]
      exact (h5 j hj).1
  · rw [World.frozen?_setCell, frozen_alloc h3]; exact (h5 j hj).2
theorem fill_grow {w : World} {x : ByteArray} {g cap : Nat} {wr w' : World} {o : Obj} {c : UInt8} {v' : Value} (h : FillR w x (.slice (some ⟨g, 0, none⟩) x.size cap) wr)
    (ho : w'.ownsRow (wr.alloc o).heap.size 5 1 v' (x.size + 1) (bvals x ++ [.int .u8 c.toNat])) (hg : (wr.alloc o).grownBy w' none) : FillR w (x ++ ⟨#[c]⟩) v' w' := by
  obtain ⟨g', cap', e, h1, h2, h3, h4, h5⟩ := h.row
  cases e
  have hw : w.heap.size ≤ wr.heap.size := h.below.size
  refine ⟨(h.below.alloc hw o).trans ⟨hg.os, hg.tape, hg.output, hg.size, fun k hk => hg.block k (by rw [size_alloc]; omega) (by simp)⟩, ?_⟩
  rcases ho.2 with ⟨_, hn⟩ | ⟨g2, cap2, cur, hv, hb, hgg, hn, hcm, hcs, htake⟩
  · omega
  · rw [Nat.mul_one] at hcs
    rw [Nat.mul_one] at htake
    refine ⟨g2, cap2, by rw [push_size1]; exact hv, by rw [size_alloc] at hb; omega, by rw [push_size1]; exact hn, (Array.getElem?_eq_some_iff.1 hgg).1, fun j u hu => ?_, fun j hj => ⟨?_, ?_⟩⟩
    · rw [Lib.cell_of_heap hgg]
      rw [bvals_push, ← htake, List.getElem?_take] at hu
      split at hu
      · rw [Array.getElem?_toList] at hu; exact hu
      · cases hu
    · rw [Lib.cell_of_heap hgg, Array.getElem?_eq_getElem (by omega)]; rfl
    · simp [World.frozen?, hgg]
def fillB (s : ByteArray) (c : UInt8) (n : Int) : ByteArray := s ++ bs (List.replicate (n.toNat - s.size) c)
def fillK (s : ByteArray) (c : UInt8) (k : Nat) : ByteArray := s ++ bs (List.replicate k c)
theorem fillK_size (s : ByteArray) (c : UInt8) (k : Nat) : (fillK s c k).size = s.size + k := by
  rw [fillK, ByteArray.size_append, bs_size, List.length_replicate]
theorem fillK_0 (s : ByteArray) (c : UInt8) : fillK s c 0 = s := by
  rw [fillK]; exact app_emB s
theorem fillK_succ (s : ByteArray) (c : UInt8) (k : Nat) : fillK s c k ++ ⟨#[c]⟩ = fillK s c (k + 1) := by
  rw [fillK, fillK, app_asc]
  congr 1
  apply ByteArray.ext
  rw [ByteArray.data_append]
  show (List.replicate k c).toArray ++ [c].toArray = (List.replicate (k + 1) c).toArray
  rw [List.append_toArray, ← List.replicate_succ']
theorem fill_back {w : World} {x : ByteArray} {g cap : Nat} {wr : World} (h : FillR w x (.slice (some ⟨g, 0, none⟩) x.size cap) wr) : (convert 63 9 (.slice (some ⟨g, 0, none⟩) x.size cap)).run Tryz.prog wr = .ok (.string x) wr := by
  obtain ⟨g', cap', e, h1, h2, h3, h4, h5⟩ := h.row
  cases e
  have := run_convert_bytes_back (P := Tryz.prog) wr 63 9 5 ⟨g, 0, none⟩ cap x.data.toList Tryz.underlying63 Tryz.underlying5 Tryz.underlying9 (fun j hj => by
    rw [Addr.add_lit, Nat.zero_add]
    exact h4 j _ (by rw [bvals, List.getElem?_map, List.getElem?_eq_getElem hj]; rfl))
  rw [sz_len] at this
  exact this
set_option maxHeartbeats 8000000 in
set_option maxRecDepth 100000 in
theorem fill41_kit (s : ByteArray) (c : UInt8) (n : Int) (hs : s.size ≤ 1024) (hn : n ≤ 1048576) (w : World) : Calls Tryz.prog 41 #[.string s, .int .u8 c.toNat, .int .i64 n] w fun e w' => e = .returned (.string (fillB s c n)) ∧ Below w.heap.size w w' := by
  obtain ⟨i0, hi, hz0, hz1, hz2⟩ := info_parts extraJ.infoByte
  have hge := grownCap_ge w s.size 0 5
  have h0 := fill_start s w _ hge
  go_enter Tryz.func41, Tryz.ntmps41
  go_wp2
  rw [run_bytes_of_string w 9 63 5 s Tryz.underlying9 Tryz.underlying63 Tryz.underlying5]
  simp only [Result.andThen]
  rw [Oper.upon_value]
  generalize hW : World.alloc _ _ = W0 at h0 ⊢
  generalize hcap : grownCap w s.size 0 5 = cap at hge h0 ⊢
  clear hW hcap
  go_wp2
  go_loopg [7] (n.toNat - s.size) (fun gg s7 wr => ∃ k : Nat, n.toNat - s.size - k = gg ∧ k ≤ n.toNat - s.size ∧ Aside (FillR w (fillK s c k) s7 wr))
  case atStart => exact ⟨0, rfl, Nat.zero_le _, by rw [fillK_0]; exact h0⟩
  case round =>
    obtain ⟨k, hg, hk, hA⟩ := hrel
    obtain ⟨g, cap2, rfl, h1, h2, h3, h4, h5⟩ := hA.out.row
    have hsz := fillK_size s c k
    clear h0
    obtain ⟨x, hx⟩ : ∃ x, fillK s c k = x := ⟨_, rfl⟩
    have hx1 := fillK_succ s c k
    rw [hx] at hsz hA h2 h4 hx1 ⊢
    by_cases hlt : (x.size : Int) < n
    · have hgk : gk ≠ 0 := by omega
      obtain ⟨gk', rfl⟩ : ∃ q, gk = q + 1 := ⟨gk - 1, by omega⟩
      have HK : Aside (n.toNat - s.size - (k + 1) = gk' ∧ k + 1 ≤ n.toNat - s.size) := ⟨by omega, by omega⟩
      have HN : Aside (∀ o, x.size + 1 ≤ cap2 → FillR w (fillK s c (k + 1)) (.slice (some ⟨g, 0, none⟩) (x.size + 1) cap2) ((wr.alloc o).setCells g (0 + x.size * 1) [.int .u8 c.toNat])) := fun o hr => by rw [← hx1]; exact fill_room hA.out hr
      have HG : Aside (∀ o v' w', w'.ownsRow (wr.heap.size + 1) 5 1 v' (x.size + 1) (bvals x ++ [.int .u8 c.toNat]) → (wr.alloc o).grownBy w' none → FillR w (fillK s c (k + 1)) v' w') := fun o v' w' ho hg => by rw [← hx1]; exact fill_grow hA.out (by rw [size_alloc]; exact ho) hg
      have HC : Aside (∀ o, (∀ (j : Nat) u, (bvals x)[j]? = some u → (wr.alloc o).cell? ⟨g, 0 + j, none⟩ = some u) ∧ (x.size + 1 ≤ cap2 → ∀ j, j < [Value.int .u8 c.toNat].length → ((wr.alloc o).cell? ⟨g, 0 + x.size * 1 + j, none⟩).isSome = true ∧ (wr.alloc o).frozen? ⟨g, 0 + x.size * 1 + j, none⟩ = false)) := fun o => ⟨fun j u hj => by rw [Nat.zero_add, cell_alloc h3]; exact h4 j u hj, fun hr j hj => by
        obtain rfl : j = 0 := by simpa using hj
        rw [Nat.zero_add, Nat.mul_one, Nat.add_zero, cell_alloc h3, frozen_alloc h3]
        exact h5 _ (by omega)⟩
      have hxs : x.size ≤ 1049600 := by rw [hsz]; omega
      have HS : Aside (x.size ≤ 1049600) := hxs
      clear h4 h5 hx hx1 hsz hxs h2 h1 hg hk hgk
      go_wp2_with (at_builtin; refine wpList_append_arg _ rfl _ _ 63 rfl 5 i0 (.int .u8 0) 1 1 Tryz.underlying63 hi hz0 hz1 hz2 rfl (by decide) g 0 x.size cap2 (bvals x) rfl (by rw [bvals_len, Nat.mul_one]) (HC.out _).1 ⟨wr.heap.size, 0, none⟩ 1 1 [.int .u8 c.toNat] rfl rfl ?c2 ?c3 (HC.out _).2 ?c5 ?c6 ?c7 ?c8)
      case c2 =>
        intro j u hj
        match j, hj with
        | 0, hj => simp at hj; subst hj; simp [Addr.add]
        | (j + 1), hj => simp at hj
      case c3 => intro u hu; simp at hu; subst hu; rfl
      case c5 => have := HS.out; unfold maxLen; omega
      case c6 => have := HS.out; omega
      case c7 =>
        intro hr
        have HN2 := HN.out (.cells #[.int .u8 c.toNat] 5) hr
        rw [Nat.zero_add, Nat.mul_one] at HN2
        have HF : Aside (FillR w (fillK s c (k + 1)) (.slice (some ⟨g, 0, none⟩) (x.size + 1) cap2) ((wr.alloc (.cells #[.int .u8 c.toNat] 5)).setCells g x.size [.int .u8 c.toNat])) := HN2
        clear HN2
        go_wp2
        go_roundg gk'
        case measure => omega
        case rel => exact ⟨k + 1, HK.out.1, HK.out.2, HF⟩
      case c8 =>
        intro hr v' w' ho hg
        have HF : Aside (FillR w (fillK s c (k + 1)) v' w') := HG.out _ v' w' ho hg
        clear ho hg
        go_wp2
        go_roundg gk'
        case measure => omega
        case rel => exact ⟨k + 1, HK.out.1, HK.out.2, HF⟩
    · have hkn : k = n.toNat - s.size := by omega
      have hres : x = fillB s c n := by rw [← hx, hkn]; rfl
      have hback := fill_back hA.out
      have hb := hA.out.below
      have HR : Aside (x = fillB s c n) := hres
      clear hres h4 h5 hx hx1 hsz h2 h1 hg hk
      go_wp2
      go_ret
      exact ⟨congrArg (fun z => Ending.returned (Value.string z)) HR.out, hb⟩
theorem fill41_D (s : ByteArray) (c : UInt8) (n : Int) (hs : s.size ≤ 1024) (hn : n ≤ 1048576) : DPure Tryz.prog 41 [strV s, .v (.int .u8 c.toNat), int1 n] (strV (fillB s c n)) :=
  DPure.kit (args := [.string s, .int .u8 c.toNat, .int .i64 n]) fun w _ => (fill41_kit s c n hs hn w).mono fun e w' ⟨he, hb⟩ => ⟨_, he, hb, fun F hF => .data (.v _ rfl)⟩
end Go.Proofs.YtlchjjchgebfiaaGreatDoor
