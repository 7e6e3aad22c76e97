/- Read: a row, as the program's reader reads it: what it computes. -/
import Derived.Test.YtlchjjchgebfiaaGreatDoorPkK
import Derived.Test.YtlchjjchgebfiaaGreatDoorPkA

namespace Go.Proofs.YtlchjjchgebfiaaGreatDoor
open Go.RowKit Go.Dl
attribute [local irreducible] Tri SCall TSem ECall Drawn DFun QSem PSem PCall GCall MCall Round Weak dloadE OW DWl Tells IntKind.wrap Retold ESem
def endR (s : ByteArray) (a : Nat) : Int := bif Lib.hasPrefix (s.extract a s.size).data.toList [10] then 1 else bif Lib.hasPrefix (s.extract a s.size).data.toList [13, 10] then 2 else 0
theorem endR_1 {s : ByteArray} {a : Nat} (h : Lib.hasPrefix (s.extract (a : Int).toNat (s.size : Int).toNat).data.toList [10] = true) : 1 = endR s a := by
  rw [Int.toNat_natCast, Int.toNat_natCast] at h
  rw [endR, h]; rfl
theorem endR_2 {s : ByteArray} {a : Nat} (h : Lib.hasPrefix (s.extract (a : Int).toNat (s.size : Int).toNat).data.toList [10] = false) (h1 : Lib.hasPrefix (s.extract (a : Int).toNat (s.size : Int).toNat).data.toList [13, 10] = true) : 2 = endR s a := by
  rw [Int.toNat_natCast, Int.toNat_natCast] at h h1
  rw [endR, h, h1]; rfl
theorem endR_0 {s : ByteArray} {a : Nat} (h : Lib.hasPrefix (s.extract (a : Int).toNat (s.size : Int).toNat).data.toList [10] = false) (h1 : Lib.hasPrefix (s.extract (a : Int).toNat (s.size : Int).toNat).data.toList [13, 10] = false) : 0 = endR s a := by
  rw [Int.toNat_natCast, Int.toNat_natCast] at h h1
  rw [endR, h, h1]; rfl
def rdO (s : ByteArray) (a : Nat) (ln : Int) : DObj := ⟨85, 3, [strV s, int1 a, int1 ln]⟩
set_option maxRecDepth 20000 in
set_option maxHeartbeats 1000000 in
theorem end81_K (s : ByteArray) (a : Nat) (ln : Int) (ha : a ≤ s.size) {K : DV → Sto → Prop} (hK : K (int1 (endR s a)) (.of [(0, ⟨85, 3, [strV s, int1 a, int1 ln]⟩)] 1)) : SCall Tryz.prog 81 [.ref 0 0] (.of [(0, ⟨85, 3, [strV s, int1 a, int1 ln]⟩)] 1) K := by
  refine SCall.run Tryz.func81 rfl (Nat.le_of_ble_eq_true rfl) (by kernel_rfl) ?_
  repeat' (first | with_reducible rfl | ((conv => whnf); first | refine And.intro ?_ ?_ | (intro h; first | with_reducible exact tf_no h | with_reducible exact ft_no h | exact Bool.noConfusion h | with_reducible exact h | (have ht : true = true := h; clear ht h) | skip) | ((with_reducible refine SCall.mark ?_); first | refine SCall.data (prefix67_D _ _) rfl rfl ?_ | refine SCall.scal (prefix67_D _ _) rfl rfl ?_) | ((with_reducible refine PCall.mark ?_); first | refine PCall.mk (prefix67_D _ _) rfl rfl ?_) | ((with_reducible refine GCall.mark ?_); first | refine GCall.data (fun _ => prefix67_D _ _) rfl rfl ?_ | refine GCall.scal (fun _ => prefix67_D _ _) rfl rfl ?_) | ((with_reducible refine MCall.mark ?_); first | refine MCall.data (fun _ => prefix67_D _ _) rfl rfl ?_ | refine MCall.plain (PCall.mk (prefix67_D _ _) rfl rfl ?_)) | ((with_reducible refine ECall.mark ?_); first | refine ECall.only ?_ (fun h => nomatch h) | refine ECall.only ?_ ?_) | ((with_reducible refine Drawn.mark ?_); first | refine Drawn.quiet (by kernel_rfl) ?_) | refine dcell_ok rfl ?_ | refine AppC.new ?_))
  all_goals first | (with_reducible refine enters_mark ?_; kernel_rfl) | (with_reducible refine boolT_mark ?_; kernel_rfl) | rfl | trivial | assumption | exact Nat.le_of_ble_eq_true rfl | (show entersB _ _ = true; kernel_rfl) | exact DW.same _ rfl | exact DW.ref _ _ _ rfl | exact DW.arr _ _ _ rfl | refine DW.int ?_ | refine dvb ?_ | refine dvi ?_ | exact OW.cells rfl rfl (DWl.same rfl) | exact Nat.zero_le _ | omega | skip
  all_goals repeat' (first | refine OW.cells rfl rfl ?_ | exact DW.nilArr _ rfl | refine DWl.cons ?_ ?_ | exact DWl.nil | exact DW.same _ rfl | exact DW.ref _ _ _ rfl | exact DW.arr _ _ _ rfl | exact DW.sub _ _ _ _ rfl | exact DW.mo _ _ rfl | exact DW.nilLst _ | refine DW.aggl ?_ | refine DW.tupl ?_ | refine DW.clol ?_ ?_)
  all_goals try ((conv => whnf); with_reducible first | refine Round.mark ?_ | refine Tells.mark ?_ | refine Retold.mark ?_)
  all_goals try first | (show (_ : Bool) = _; simp_all; done) | (show (_ : Int) < _; simp at *; omega) | (show (_ : Int) ≤ _; simp at *; omega) | (show (_ : Nat) < _; simp at *; omega) | (show (_ : Nat) ≤ _; simp at *; omega)
  · conv => whnf
    rw [← endR_1 h] at hK
    exact hK
  · rename_i h1
    conv => whnf
    rw [← endR_2 h1 h] at hK
    exact hK
  · rename_i h1
    conv => whnf
    rw [← endR_0 h1 h] at hK
    exact hK
theorem end81_S (s : ByteArray) (a : Nat) (ln : Int) (ha : a ≤ s.size) : SCall Tryz.prog 81 [.ref 0 0] (.of [(0, rdO s a ln)] 1) fun r' s' => r' = int1 (endR s a) ∧ s' = .of [(0, rdO s a ln)] 1 := end81_K s a ln ha ⟨rfl, rfl⟩
end Go.Proofs.YtlchjjchgebfiaaGreatDoor

namespace Go.Proofs.YtlchjjchgebfiaaGreatDoor
open Go.RowKit Go.Dl
attribute [local irreducible] Tri SCall TSem ECall Drawn DFun QSem PSem PCall GCall MCall Round Weak dloadE OW DWl Tells IntKind.wrap Retold ESem
structure RS where
  st : Int
  cell : ByteArray
  l : List ByteArray
  at_ : Nat
  line : Int
structure RR where
  ok : Bool
  row : List ByteArray
  at_ : Nat
  line : Int
inductive Out where
  | more (j : RS)
  | stop (r : RR)
def byB (s : ByteArray) (a : Nat) : ByteArray := ⟨#[s.data.toList.getD a 0]⟩
def nlI (c ln : Int) : Int := bif c == 10 then IntKind.i64.wrap (ln + 1) else ln
def stepR (s : ByteArray) (i : RS) : Out :=
  bif i.st == 2 then
    (bif byteAt s i.at_ == 34 then .more ⟨3, i.cell, i.l, i.at_ + 1, nlI (byteAt s i.at_) i.line⟩
     else .more ⟨2, i.cell ++ byB s i.at_, i.l, i.at_ + 1, nlI (byteAt s i.at_) i.line⟩)
  else bif decide (0 < endR s i.at_) then .stop ⟨true, i.l ++ [i.cell], i.at_ + (endR s i.at_).toNat, IntKind.i64.wrap (i.line + 1)⟩
  else bif byteAt s i.at_ == 44 then .more ⟨0, emB, i.l ++ [i.cell], i.at_ + 1, i.line⟩
  else bif (bif i.st == 3 then byteAt s i.at_ == 34 else false) then .more ⟨2, i.cell ++ byB s i.at_, i.l, i.at_ + 1, i.line⟩
  else bif (bif i.st == 0 then byteAt s i.at_ == 34 else false) then .more ⟨2, i.cell, i.l, i.at_ + 1, i.line⟩
  else bif (bif i.st == 3 then true else byteAt s i.at_ == 34) then .stop ⟨false, [], i.at_, i.line⟩
  else .more ⟨1, i.cell ++ byB s i.at_, i.l, i.at_ + 1, i.line⟩
def finR (i : RS) : RR := bif i.st == 2 then ⟨false, [], i.at_, i.line⟩ else ⟨true, i.l ++ [i.cell], i.at_, i.line⟩
def rowF (s : ByteArray) : Nat → RS → RR
  | 0, i => finR i
  | n + 1, i => match stepR s i with
    | .more j => rowF s n j
    | .stop r => r
def rowG (s : ByteArray) (i : RS) : RR := rowF s (s.size - i.at_) i
def rsSt (s : ByteArray) (i : RS) : St := ⟨⟨1, []⟩, tmOf [(0, .ref 0 0), (4, .ref 1 0), (5, .ref 2 0), (6, .ref 3 0), (7, .clo (.func 80) [] [.ref 1 0, .ref 2 0, .ref 3 0])], .of [(0, ⟨85, 3, [strV s, int1 i.at_, int1 i.line]⟩), (1, ⟨22, 1, [.arr 4 i.l.length]⟩), (2, ⟨63, 1, [.arr 5 i.cell.size]⟩), (3, ⟨3, 1, [int1 i.st]⟩), (4, ⟨9, 1, rowS i.l⟩), (5, ⟨5, 1, bytesD i.cell⟩)] 6⟩
structure RSok (s : ByteArray) (a : Nat) (ln : Int) (i : RS) : Prop where
  at_ : i.at_ ≤ s.size
  l : i.l.length ≤ i.at_
  cell : i.cell.size ≤ i.at_
  goes : rowG s i = rowG s ⟨0, emB, [], a, ln⟩
theorem rowG_more {s : ByteArray} {i j : RS} (hlt : i.at_ < s.size) (h : stepR s i = .more j) (hat : j.at_ = i.at_ + 1) : rowG s j = rowG s i := by
  unfold rowG
  obtain ⟨n, hn⟩ : ∃ n, s.size - i.at_ = n + 1 := ⟨s.size - i.at_ - 1, by omega⟩
  rw [hn, rowF, h, hat, show s.size - (i.at_ + 1) = n by omega]
theorem rowG_stop {s : ByteArray} {i : RS} {r : RR} (hlt : i.at_ < s.size) (h : stepR s i = .stop r) : r = rowG s i := by
  unfold rowG
  obtain ⟨n, hn⟩ : ∃ n, s.size - i.at_ = n + 1 := ⟨s.size - i.at_ - 1, by omega⟩
  rw [hn, rowF, h]
theorem rowG_fin {s : ByteArray} {i : RS} (hge : s.size ≤ i.at_) : finR i = rowG s i := by
  unfold rowG
  rw [show s.size - i.at_ = 0 by omega]; rfl
theorem rs_next {s : ByteArray} {a : Nat} {ln : Int} {i j : RS} (hi : RSok s a ln i) (hlt : i.at_ < s.size) (h : stepR s i = .more j) (hat : j.at_ = i.at_ + 1) (hl : j.l.length ≤ i.l.length + 1) (hc : j.cell.size ≤ i.cell.size + 1) : RSok s a ln j :=
  ⟨by omega, by have := hi.l; omega, by have := hi.cell; omega, (rowG_more hlt h hat).trans hi.goes⟩
theorem nl_t {c ln : Int} (h : (c == 10) = true) : IntKind.i64.wrap (ln + 1) = nlI c ln := by rw [nlI, h]; rfl
theorem nl_f {c ln : Int} (h : (c == 10) = false) : ln = nlI c ln := by rw [nlI, h]; rfl
theorem st_q1 {s : ByteArray} {i : RS} (h1 : (i.st == 2) = true) (h2 : (byteAt s i.at_ == 34) = true) : stepR s i = .more ⟨3, i.cell, i.l, i.at_ + 1, nlI (byteAt s i.at_) i.line⟩ := by unfold stepR; rw [h1, h2]; rfl
theorem st_q2 {s : ByteArray} {i : RS} (h1 : (i.st == 2) = true) (h2 : (byteAt s i.at_ == 34) = false) : stepR s i = .more ⟨2, i.cell ++ byB s i.at_, i.l, i.at_ + 1, nlI (byteAt s i.at_) i.line⟩ := by unfold stepR; rw [h1, h2]; rfl
theorem st_e {s : ByteArray} {i : RS} (h1 : (i.st == 2) = false) (h2 : decide (0 < endR s i.at_) = true) : stepR s i = .stop ⟨true, i.l ++ [i.cell], i.at_ + (endR s i.at_).toNat, IntKind.i64.wrap (i.line + 1)⟩ := by unfold stepR; rw [h1, h2]; rfl
theorem st_c {s : ByteArray} {i : RS} (h1 : (i.st == 2) = false) (h2 : decide (0 < endR s i.at_) = false) (h3 : (byteAt s i.at_ == 44) = true) : stepR s i = .more ⟨0, emB, i.l ++ [i.cell], i.at_ + 1, i.line⟩ := by unfold stepR; rw [h1, h2, h3]; rfl
theorem st_d {s : ByteArray} {i : RS} (h1 : (i.st == 2) = false) (h2 : decide (0 < endR s i.at_) = false) (h3 : (byteAt s i.at_ == 44) = false) (h4 : (bif i.st == 3 then byteAt s i.at_ == 34 else false) = true) : stepR s i = .more ⟨2, i.cell ++ byB s i.at_, i.l, i.at_ + 1, i.line⟩ := by unfold stepR; rw [h1, h2, h3, h4]; rfl
theorem st_o {s : ByteArray} {i : RS} (h1 : (i.st == 2) = false) (h2 : decide (0 < endR s i.at_) = false) (h3 : (byteAt s i.at_ == 44) = false) (h4 : (bif i.st == 3 then byteAt s i.at_ == 34 else false) = false) (h5 : (bif i.st == 0 then byteAt s i.at_ == 34 else false) = true) : stepR s i = .more ⟨2, i.cell, i.l, i.at_ + 1, i.line⟩ := by unfold stepR; rw [h1, h2, h3, h4, h5]; rfl
theorem st_b {s : ByteArray} {i : RS} (h1 : (i.st == 2) = false) (h2 : decide (0 < endR s i.at_) = false) (h3 : (byteAt s i.at_ == 44) = false) (h4 : (bif i.st == 3 then byteAt s i.at_ == 34 else false) = false) (h5 : (bif i.st == 0 then byteAt s i.at_ == 34 else false) = false) (h6 : (bif i.st == 3 then true else byteAt s i.at_ == 34) = true) : stepR s i = .stop ⟨false, [], i.at_, i.line⟩ := by unfold stepR; rw [h1, h2, h3, h4, h5, h6]; rfl
theorem st_p {s : ByteArray} {i : RS} (h1 : (i.st == 2) = false) (h2 : decide (0 < endR s i.at_) = false) (h3 : (byteAt s i.at_ == 44) = false) (h4 : (bif i.st == 3 then byteAt s i.at_ == 34 else false) = false) (h5 : (bif i.st == 0 then byteAt s i.at_ == 34 else false) = false) (h6 : (bif i.st == 3 then true else byteAt s i.at_ == 34) = false) : stepR s i = .more ⟨1, i.cell ++ byB s i.at_, i.l, i.at_ + 1, i.line⟩ := by unfold stepR; rw [h1, h2, h3, h4, h5, h6]; rfl
theorem bytes_take (x : ByteArray) : (bytesD x).take x.size = bytesD x := List.take_of_length_le (by rw [bytesD_len]; omega)
theorem bytes_push (s x : ByteArray) (a : Nat) : (bytesD x).take (x.size * 1) ++ [.v (.int .u8 (byteAt s (a : Int).toNat))] = bytesD (x ++ byB s a) := by
  rw [bytesD_take, bytesD_app]; rfl
theorem size_push (s x : ByteArray) (a : Nat) : x.size + 1 = (x ++ byB s a).size := by rw [ByteArray.size_append]; rfl
set_option maxRecDepth 20000 in
theorem rs_b2 {s : ByteArray} {a : Nat} {ln : Int} {i : RS} (hi : RSok s a ln i) (hs : s.size ≤ 1099511627776) : (i.cell.size + 1) * Tryz.prog.types[5].bytes ≤ 140737488355328 := by
  have := hi.cell; have := hi.at_
  show (i.cell.size + 1) * 1 ≤ _
  omega
theorem rs_b3 {s : ByteArray} {a : Nat} {ln : Int} {i : RS} (hi : RSok s a ln i) (hs : s.size ≤ 1099511627776) : i.cell.size + 1 ≤ maxLen := by
  have := hi.cell; have := hi.at_
  simp only [maxLen]; omega
set_option maxRecDepth 20000 in
theorem rs_r1 (i : RS) : i.l.length * Tryz.prog.types[9].size ≤ (rowS i.l).length := by
  rw [rowS_len]
  show i.l.length * 1 ≤ _
  omega
set_option maxRecDepth 20000 in
theorem rs_r2 {s : ByteArray} {a : Nat} {ln : Int} {i : RS} (hi : RSok s a ln i) (hs : s.size ≤ 1099511627776) : (i.l.length + 1) * Tryz.prog.types[9].bytes ≤ 140737488355328 := by
  have := hi.l; have := hi.at_
  show (i.l.length + 1) * 16 ≤ _
  omega
theorem rs_r3 {s : ByteArray} {a : Nat} {ln : Int} {i : RS} (hi : RSok s a ln i) (hs : s.size ≤ 1099511627776) : i.l.length + 1 ≤ maxLen := by
  have := hi.l; have := hi.at_
  simp only [maxLen]; omega
theorem rl_push (i : RS) : i.l.length + 1 = (i.l ++ [i.cell]).length := by rw [List.length_append]; rfl
theorem rs_push (i : RS) : (rowS i.l).take (i.l.length * 1) ++ [.v (.string i.cell)] = rowS (i.l ++ [i.cell]) := rowS_push i.l i.cell
theorem rs_pushF (i : RS) : (rowS i.l).take (i.l.length * 1) ++ [.v (.string i.cell)] = ((i.l ++ [i.cell]).map strD).flatten := rowS_push i.l i.cell
theorem endR_le (s : ByteArray) (a : Nat) : 0 ≤ endR s a ∧ endR s a ≤ 2 := by
  unfold endR
  cases Lib.hasPrefix (s.extract a s.size).data.toList [10] with
  | true => show (0 : Int) ≤ 1 ∧ (1 : Int) ≤ 2
            decide
  | false =>
    cases Lib.hasPrefix (s.extract a s.size).data.toList [13, 10] with
    | true => show (0 : Int) ≤ 2 ∧ (2 : Int) ≤ 2
              decide
    | false => show (0 : Int) ≤ 0 ∧ (0 : Int) ≤ 2
               decide
theorem end_at {s : ByteArray} {a : Nat} (h : a < s.size) (hs : s.size ≤ 1099511627776) : IntKind.i64.wrap ((a : Int) + endR s a) = ((a + (endR s a).toNat : Nat) : Int) := by
  obtain ⟨h1, h2⟩ := endR_le s a
  rw [wrapI (by omega) (by omega)]; omega
theorem row0 : rowS [] = [] := rfl
attribute [local irreducible] rowS bytesD rowG endR stepR nlI byB
set_option maxRecDepth 20000 in
set_option maxHeartbeats 4000000 in
theorem row48_K (s : ByteArray) (hs : s.size ≤ 1099511627776) (a : Nat) (ln : Int) (ha : a ≤ s.size) {K : DV → Sto → Prop}
    (hK : K (.tup [strs (rowG s ⟨0, emB, [], a, ln⟩).row, bl (rowG s ⟨0, emB, [], a, ln⟩).ok]) (.of [(0, ⟨85, 3, [strV s, int1 (rowG s ⟨0, emB, [], a, ln⟩).at_, int1 (rowG s ⟨0, emB, [], a, ln⟩).line]⟩)] 1)) :
    SCall Tryz.prog 48 [.ref 0 0] (.of [(0, ⟨85, 3, [strV s, int1 a, int1 ln]⟩)] 1) K := by
  refine SCall.retell (SCall.run Tryz.func48 rfl (Nat.le_of_ble_eq_true rfl) (by kernel_rfl) ?_)
  repeat' (first | with_reducible rfl | ((conv => whnf); first | refine And.intro ?_ ?_ | (intro h; first | with_reducible exact tf_no h | with_reducible exact ft_no h | exact Bool.noConfusion h | with_reducible exact h | (have ht : true = true := h; clear ht h) | skip) | ((with_reducible refine ECall.mark ?_); first | refine ECall.only ?_ (fun h => nomatch h) | refine ECall.only ?_ ?_) | ((with_reducible refine Drawn.mark ?_); first | refine Drawn.quiet (by kernel_rfl) ?_) | refine dcell_ok rfl ?_ | refine AppC.new ?_))
  all_goals first | (with_reducible refine enters_mark ?_; kernel_rfl) | (with_reducible refine boolT_mark ?_; kernel_rfl) | rfl | trivial | assumption | exact Nat.le_of_ble_eq_true rfl | (show entersB _ _ = true; kernel_rfl) | exact DW.same _ rfl | exact DW.ref _ _ _ rfl | exact DW.arr _ _ _ rfl | refine DW.int ?_ | refine dvb ?_ | refine dvi ?_ | exact OW.cells rfl rfl (DWl.same rfl) | exact Nat.zero_le _ | omega | skip
  all_goals repeat' (first | refine OW.cells rfl rfl ?_ | exact DW.nilArr _ rfl | refine DWl.cons ?_ ?_ | exact DWl.nil | exact DW.same _ rfl | exact DW.ref _ _ _ rfl | exact DW.arr _ _ _ rfl | exact DW.sub _ _ _ _ rfl | exact DW.mo _ _ rfl | exact DW.nilLst _ | refine DW.aggl ?_ | refine DW.tupl ?_ | refine DW.clol ?_ ?_)
  all_goals try ((conv => whnf); with_reducible first | refine Round.mark ?_ | refine Tells.mark ?_ | refine Retold.mark ?_)
  all_goals try first | (show (_ : Bool) = _; simp_all; done) | (show (_ : Int) < _; simp at *; omega) | (show (_ : Int) ≤ _; simp at *; omega) | (show (_ : Nat) < _; simp at *; omega) | (show (_ : Nat) ≤ _; simp at *; omega)
  conv => whnf
  refine Tri.scope (by kernel_rfl) ?_
  repeat' (first | with_reducible rfl | ((conv => whnf); first | refine And.intro ?_ ?_ | (intro h; first | with_reducible exact tf_no h | with_reducible exact ft_no h | exact Bool.noConfusion h | with_reducible exact h | (have ht : true = true := h; clear ht h) | skip) | ((with_reducible refine ECall.mark ?_); first | refine ECall.only ?_ (fun h => nomatch h) | refine ECall.only ?_ ?_) | ((with_reducible refine Drawn.mark ?_); first | refine Drawn.quiet (by kernel_rfl) ?_) | refine dcell_ok rfl ?_ | refine AppC.new ?_))
  all_goals try first | ((with_reducible show Option.isSome (slElem _ _) = true); kernel_rfl) | ((with_reducible show slElem _ _ = some _); kernel_rfl) | ((with_reducible refine enters_mark ?_); kernel_rfl) | (with_reducible assumption) | ((with_reducible show List.all _ DV.one = true); rfl) | ((with_reducible show (_ : Nat) = _); rfl) | ((with_reducible show (_ == true) = true); simpa using h) | ((with_reducible show (_ : Nat) ≤ _); exact Nat.le_of_ble_eq_true rfl) | ((with_reducible show (_ : Int) ≤ _); first | omega | decide) | ((with_reducible show (_ : Int) < _); first | omega | decide) | ((with_reducible show (_ : Nat) < _); omega) | ((with_reducible show (_ : Nat) ≤ _); omega)
  conv => whnf
  refine Tri.loop (rsSt s) (RSok s a ln) (fun i => s.size - i.at_) ⟨0, emB, [], a, ln⟩ (by kernel_rfl) (Weak.list [(1, some 1), (2, some 2), (3, some 3), (4, none), (5, none)] [] (by kernel_rfl) ?_ ?_) ⟨ha, Nat.zero_le _, Nat.zero_le _, rfl⟩ ?_
  iterate 2 · repeat' (first | exact row0 | exact em0 | exact DW.nilArr _ rfl | exact DW.same _ rfl | exact DW.ref _ _ _ rfl | exact DW.arr _ _ _ rfl | exact OW.cells rfl rfl (DWl.same rfl) | refine OW.cells rfl rfl ?_ | refine DWl.cons ?_ ?_ | exact DWl.nil | exact DW.nilArr _ rfl | exact DW.nilLst _ | refine DW.clol ?_ ?_ | refine DW.aggl ?_ | refine DW.tupl ?_ | refine DW.int ?_ | refine DW.bool ?_ | refine DW.str ?_ | refine DW.arrE rfl ?_ | ((conv => whnf); first | refine And.intro ?_ ?_ | trivial))
  intro i hi
  show dcode _ _ _ _ (rsSt s i) _
  repeat' (first | with_reducible rfl | ((conv => whnf); first | refine And.intro ?_ ?_ | (intro h; first | with_reducible exact tf_no h | with_reducible exact ft_no h | exact Bool.noConfusion h | with_reducible exact h | (have ht : true = true := h; clear ht h) | skip) | ((with_reducible refine SCall.mark ?_); first | refine SCall.run Tryz.func80 rfl (Nat.le_of_ble_eq_true rfl) (by kernel_rfl) ?_ | refine SCall.at [0] (fun _ => [(0, ⟨85, 3, [strV s, int1 i.at_, int1 i.line]⟩)]) (fun _ => int1 (endR s i.at_)) 0 (end81_S s i.at_ i.line hi.at_) (by kernel_rfl) ⟨OW.cells rfl rfl (DWl.same rfl), trivial⟩ (DWl.cons (DW.ref _ _ _ rfl) DWl.nil) (DW.same _ rfl) ⟨OW.cells rfl rfl (DWl.same rfl), trivial⟩ ?_) | ((with_reducible refine Tri.mark ?_); first | (refine Tri.treeX [0] (MX.mv 0 0 (MX.mv 0 1 (MX.mv 0 2 (MX.mv 0 4 (MX.two 1 3 (MX.mv 2 5 (MX.mv 0 6 (MX.mv 0 7 (MX.mv 0 8 (MX.mv 1 9 MX.done))))) 2 5 (MX.mv 1 3 (MX.mv 0 6 (MX.mv 0 7 (MX.mv 0 8 (MX.mv 1 9 MX.done)))))))))) ?_ (by kernel_rfl) ?_; rfl)) | ((with_reducible refine ex_mark ?_); first | refine dq_bstr (i.cell) Tryz.underlying63 Tryz.underlying5 Tryz.underlying9 rfl rfl rfl ?_ ?_) | ((with_reducible refine ECall.mark ?_); first | refine ECall.only ?_ (fun h => nomatch h) | refine ECall.only ?_ ?_) | ((with_reducible refine Drawn.mark ?_); first | (refine Drawn.tree ?_; refine Tri.treeX [0] (MX.mv 0 0 (MX.mv 0 1 (MX.mv 0 2 (MX.mv 0 4 (MX.two 1 3 (MX.mv 2 5 (MX.mv 0 6 (MX.mv 0 7 (MX.mv 0 8 (MX.mv 1 9 MX.done))))) 2 5 (MX.mv 1 3 (MX.mv 0 6 (MX.mv 0 7 (MX.mv 0 8 (MX.mv 1 9 MX.done)))))))))) ?_ (by kernel_rfl) ?_; rfl) | refine Drawn.quiet (by kernel_rfl) ?_) | refine dcell_ok rfl ?_ | refine AppC.new ?_))
  all_goals try ((conv => whnf); with_reducible refine Round.mark ?_)
  all_goals try first | ((with_reducible show Option.isSome (slElem _ _) = true); kernel_rfl) | ((with_reducible show slElem _ _ = some _); kernel_rfl) | ((with_reducible refine enters_mark ?_); kernel_rfl) | (with_reducible assumption) | ((with_reducible show List.all _ DV.one = true); rfl) | ((with_reducible show (_ : Nat) = _); rfl) | ((with_reducible show (_ == true) = true); simpa using h) | ((with_reducible show (_ : Nat) ≤ _); exact Nat.le_of_ble_eq_true rfl) | ((with_reducible show (_ : Int) ≤ _); first | omega | decide) | ((with_reducible show (_ : Int) < _); first | omega | decide) | ((with_reducible show (_ : Nat) < _); omega) | ((with_reducible show (_ : Nat) ≤ _); omega)
  all_goals try (first | (rfl; done) | (exact ln_b1 _; done) | (exact rs_b2 hi hs; done) | (exact rs_b3 hi hs; done) | (exact rs_r1 _; done) | (exact rs_r2 hi hs; done) | (exact rs_r3 hi hs; done) | (exact bytes_take _; done) | (exact of_decide_eq_true (by assumption); done))
  · rename_i hat e2 e3
    have hlt : i.at_ < s.size := by have := of_decide_eq_true hat; omega
    have hst := st_q1 e2 e3
    refine Round.go (fun _ => _) (rs_next hi hlt hst rfl ?_ ?_) (by show s.size - (i.at_ + 1) < s.size - i.at_; omega) (Weak.list [(1, some 1), (2, some 2), (3, some 3), (4, some 4), (5, some 5)] [] (by kernel_rfl) ?_ ?_)
    · exact Nat.le_succ _
    · exact Nat.le_succ _
    iterate 2 · repeat' (first | exact wsucc hlt (by omega) | exact nl_t h | exact eq_of_beq e2 | exact DWl.eq (bytes_push s i.cell i.at_) (bytesD_all _) | exact size_push s i.cell i.at_ | exact DWl.eq rfl (rowS_all _) | exact DWl.eq rfl (bytesD_all _) | exact DW.same _ rfl | exact DW.ref _ _ _ rfl | exact DW.arr _ _ _ rfl | exact OW.cells rfl rfl (DWl.same rfl) | refine OW.cells rfl rfl ?_ | refine DWl.cons ?_ ?_ | exact DWl.nil | exact DW.nilArr _ rfl | exact DW.nilLst _ | refine DW.clol ?_ ?_ | refine DW.aggl ?_ | refine DW.tupl ?_ | refine DW.int ?_ | refine DW.bool ?_ | refine DW.str ?_ | refine DW.arrE rfl ?_ | ((conv => whnf); first | refine And.intro ?_ ?_ | trivial))
  · rename_i hat e2 e3
    have hlt : i.at_ < s.size := by have := of_decide_eq_true hat; omega
    have hst := st_q1 e2 e3
    refine Round.go (fun _ => _) (rs_next hi hlt hst rfl ?_ ?_) (by show s.size - (i.at_ + 1) < s.size - i.at_; omega) (Weak.list [(1, some 1), (2, some 2), (3, some 3), (4, some 4), (5, some 5)] [] (by kernel_rfl) ?_ ?_)
    · exact Nat.le_succ _
    · exact Nat.le_succ _
    iterate 2 · repeat' (first | exact wsucc hlt (by omega) | exact nl_f h | exact eq_of_beq e2 | exact DWl.eq (bytes_push s i.cell i.at_) (bytesD_all _) | exact size_push s i.cell i.at_ | exact DWl.eq rfl (rowS_all _) | exact DWl.eq rfl (bytesD_all _) | exact DW.same _ rfl | exact DW.ref _ _ _ rfl | exact DW.arr _ _ _ rfl | exact OW.cells rfl rfl (DWl.same rfl) | refine OW.cells rfl rfl ?_ | refine DWl.cons ?_ ?_ | exact DWl.nil | exact DW.nilArr _ rfl | exact DW.nilLst _ | refine DW.clol ?_ ?_ | refine DW.aggl ?_ | refine DW.tupl ?_ | refine DW.int ?_ | refine DW.bool ?_ | refine DW.str ?_ | refine DW.arrE rfl ?_ | ((conv => whnf); first | refine And.intro ?_ ?_ | trivial))
  · rename_i hat e2 e3
    have hlt : i.at_ < s.size := by have := of_decide_eq_true hat; omega
    have hst := st_q2 e2 e3
    refine Round.go (fun _ => _) (rs_next hi hlt hst rfl ?_ ?_) (by show s.size - (i.at_ + 1) < s.size - i.at_; omega) (Weak.list [(1, some 1), (2, some 2), (3, some 3), (4, some 4), (5, some 7)] [] (by kernel_rfl) ?_ ?_)
    · exact Nat.le_succ _
    · exact Nat.le_of_eq (size_push s i.cell i.at_).symm
    iterate 2 · repeat' (first | exact wsucc hlt (by omega) | exact nl_t h | exact eq_of_beq e2 | exact DWl.eq (bytes_push s i.cell i.at_) (bytesD_all _) | exact size_push s i.cell i.at_ | exact DWl.eq rfl (rowS_all _) | exact DWl.eq rfl (bytesD_all _) | exact DW.same _ rfl | exact DW.ref _ _ _ rfl | exact DW.arr _ _ _ rfl | exact OW.cells rfl rfl (DWl.same rfl) | refine OW.cells rfl rfl ?_ | refine DWl.cons ?_ ?_ | exact DWl.nil | exact DW.nilArr _ rfl | exact DW.nilLst _ | refine DW.clol ?_ ?_ | refine DW.aggl ?_ | refine DW.tupl ?_ | refine DW.int ?_ | refine DW.bool ?_ | refine DW.str ?_ | refine DW.arrE rfl ?_ | ((conv => whnf); first | refine And.intro ?_ ?_ | trivial))
  · rename_i hat e2 e3
    have hlt : i.at_ < s.size := by have := of_decide_eq_true hat; omega
    have hst := st_q2 e2 e3
    refine Round.go (fun _ => _) (rs_next hi hlt hst rfl ?_ ?_) (by show s.size - (i.at_ + 1) < s.size - i.at_; omega) (Weak.list [(1, some 1), (2, some 2), (3, some 3), (4, some 4), (5, some 7)] [] (by kernel_rfl) ?_ ?_)
    · exact Nat.le_succ _
    · exact Nat.le_of_eq (size_push s i.cell i.at_).symm
    iterate 2 · repeat' (first | exact wsucc hlt (by omega) | exact nl_f h | exact eq_of_beq e2 | exact DWl.eq (bytes_push s i.cell i.at_) (bytesD_all _) | exact size_push s i.cell i.at_ | exact DWl.eq rfl (rowS_all _) | exact DWl.eq rfl (bytesD_all _) | exact DW.same _ rfl | exact DW.ref _ _ _ rfl | exact DW.arr _ _ _ rfl | exact OW.cells rfl rfl (DWl.same rfl) | refine OW.cells rfl rfl ?_ | refine DWl.cons ?_ ?_ | exact DWl.nil | exact DW.nilArr _ rfl | exact DW.nilLst _ | refine DW.clol ?_ ?_ | refine DW.aggl ?_ | refine DW.tupl ?_ | refine DW.int ?_ | refine DW.bool ?_ | refine DW.str ?_ | refine DW.arrE rfl ?_ | ((conv => whnf); first | refine And.intro ?_ ?_ | trivial))
  · rename_i hat e2
    have hlt : i.at_ < s.size := by have := of_decide_eq_true hat; omega
    have e := (rowG_stop hlt (st_e e2 h)).trans hi.goes
    rw [← e] at hK
    conv => whnf
    refine Retold.list [] [7] (.tup [strs (i.l ++ [i.cell]), bl true]) [(0, ⟨85, 3, [strV s, int1 (i.at_ + (endR s i.at_).toNat : Nat), int1 (IntKind.i64.wrap (i.line + 1))]⟩)] 1 (by kernel_rfl) ?_ ?_ hK
    iterate 2 · repeat' (first | exact DW.pubE rfl rfl (Nat.zero_lt_succ _) (List.mem_singleton.2 rfl) (by rw [List.length_map, List.length_append]; rfl) strRow (rs_pushF i) | exact end_at hlt hs | exact DW.same _ rfl | exact DW.ref _ _ _ rfl | exact DW.arr _ _ _ rfl | exact OW.cells rfl rfl (DWl.same rfl) | refine OW.cells rfl rfl ?_ | refine DWl.cons ?_ ?_ | exact DWl.nil | exact DW.nilArr _ rfl | exact DW.nilLst _ | refine DW.clol ?_ ?_ | refine DW.aggl ?_ | refine DW.tupl ?_ | refine DW.int ?_ | refine DW.bool ?_ | refine DW.str ?_ | refine DW.arrE rfl ?_ | ((conv => whnf); first | refine And.intro ?_ ?_ | trivial))
  · rename_i hat e2
    have hlt : i.at_ < s.size := by have := of_decide_eq_true hat; omega
    have e := (rowG_stop hlt (st_e e2 h)).trans hi.goes
    rw [← e] at hK
    conv => whnf
    refine Retold.list [] [7] (.tup [strs (i.l ++ [i.cell]), bl true]) [(0, ⟨85, 3, [strV s, int1 (i.at_ + (endR s i.at_).toNat : Nat), int1 (IntKind.i64.wrap (i.line + 1))]⟩)] 1 (by kernel_rfl) ?_ ?_ hK
    iterate 2 · repeat' (first | exact DW.pubE rfl rfl (Nat.zero_lt_succ _) (List.mem_singleton.2 rfl) (by rw [List.length_map, List.length_append]; rfl) strRow (rs_pushF i) | exact end_at hlt hs | exact DW.same _ rfl | exact DW.ref _ _ _ rfl | exact DW.arr _ _ _ rfl | exact OW.cells rfl rfl (DWl.same rfl) | refine OW.cells rfl rfl ?_ | refine DWl.cons ?_ ?_ | exact DWl.nil | exact DW.nilArr _ rfl | exact DW.nilLst _ | refine DW.clol ?_ ?_ | refine DW.aggl ?_ | refine DW.tupl ?_ | refine DW.int ?_ | refine DW.bool ?_ | refine DW.str ?_ | refine DW.arrE rfl ?_ | ((conv => whnf); first | refine And.intro ?_ ?_ | trivial))
  · rename_i hat e2 e3
    have hlt : i.at_ < s.size := by have := of_decide_eq_true hat; omega
    have hst := st_c e2 e3 h
    refine Round.go (fun _ => _) (rs_next hi hlt hst rfl ?_ ?_) (by show s.size - (i.at_ + 1) < s.size - i.at_; omega) (Weak.list [(1, some 1), (2, some 2), (3, some 3), (4, some 7), (5, none)] [] (by kernel_rfl) ?_ ?_)
    · rw [List.length_append]; exact Nat.le_refl _
    · exact Nat.zero_le _
    iterate 2 · repeat' (first | exact wsucc hlt (by omega) | exact rl_push i | exact DWl.eq (rs_push i) (rowS_all _) | exact em0 | exact DW.nilArr _ rfl | exact DWl.eq (bytes_push s i.cell i.at_) (bytesD_all _) | exact size_push s i.cell i.at_ | exact DWl.eq rfl (rowS_all _) | exact DWl.eq rfl (bytesD_all _) | exact DW.same _ rfl | exact DW.ref _ _ _ rfl | exact DW.arr _ _ _ rfl | exact OW.cells rfl rfl (DWl.same rfl) | refine OW.cells rfl rfl ?_ | refine DWl.cons ?_ ?_ | exact DWl.nil | exact DW.nilArr _ rfl | exact DW.nilLst _ | refine DW.clol ?_ ?_ | refine DW.aggl ?_ | refine DW.tupl ?_ | refine DW.int ?_ | refine DW.bool ?_ | refine DW.str ?_ | refine DW.arrE rfl ?_ | ((conv => whnf); first | refine And.intro ?_ ?_ | trivial))
  · rename_i hat e2 e3 e4
    have hlt : i.at_ < s.size := by have := of_decide_eq_true hat; omega
    have hst := st_d e2 e3 e4 h
    refine Round.go (fun _ => _) (rs_next hi hlt hst rfl ?_ ?_) (by show s.size - (i.at_ + 1) < s.size - i.at_; omega) (Weak.list [(1, some 1), (2, some 2), (3, some 3), (4, some 4), (5, some 7)] [] (by kernel_rfl) ?_ ?_)
    · exact Nat.le_succ _
    · exact Nat.le_of_eq (size_push s i.cell i.at_).symm
    iterate 2 · repeat' (first | exact wsucc hlt (by omega) | exact DWl.eq (bytes_push s i.cell i.at_) (bytesD_all _) | exact size_push s i.cell i.at_ | exact DWl.eq rfl (rowS_all _) | exact DWl.eq rfl (bytesD_all _) | exact DW.same _ rfl | exact DW.ref _ _ _ rfl | exact DW.arr _ _ _ rfl | exact OW.cells rfl rfl (DWl.same rfl) | refine OW.cells rfl rfl ?_ | refine DWl.cons ?_ ?_ | exact DWl.nil | exact DW.nilArr _ rfl | exact DW.nilLst _ | refine DW.clol ?_ ?_ | refine DW.aggl ?_ | refine DW.tupl ?_ | refine DW.int ?_ | refine DW.bool ?_ | refine DW.str ?_ | refine DW.arrE rfl ?_ | ((conv => whnf); first | refine And.intro ?_ ?_ | trivial))
  · rename_i hat e2 e3 e4 e5
    have hlt : i.at_ < s.size := by have := of_decide_eq_true hat; omega
    have hst := st_o e2 e3 e4 e5 h
    refine Round.go (fun _ => _) (rs_next hi hlt hst rfl ?_ ?_) (by show s.size - (i.at_ + 1) < s.size - i.at_; omega) (Weak.list [(1, some 1), (2, some 2), (3, some 3), (4, some 4), (5, some 5)] [] (by kernel_rfl) ?_ ?_)
    · exact Nat.le_succ _
    · exact Nat.le_succ _
    iterate 2 · repeat' (first | exact wsucc hlt (by omega) | exact DWl.eq (bytes_push s i.cell i.at_) (bytesD_all _) | exact size_push s i.cell i.at_ | exact DWl.eq rfl (rowS_all _) | exact DWl.eq rfl (bytesD_all _) | exact DW.same _ rfl | exact DW.ref _ _ _ rfl | exact DW.arr _ _ _ rfl | exact OW.cells rfl rfl (DWl.same rfl) | refine OW.cells rfl rfl ?_ | refine DWl.cons ?_ ?_ | exact DWl.nil | exact DW.nilArr _ rfl | exact DW.nilLst _ | refine DW.clol ?_ ?_ | refine DW.aggl ?_ | refine DW.tupl ?_ | refine DW.int ?_ | refine DW.bool ?_ | refine DW.str ?_ | refine DW.arrE rfl ?_ | ((conv => whnf); first | refine And.intro ?_ ?_ | trivial))
  · simpa using h
  · simpa using h
  · rename_i hat e2 e3 e4 e5 e6 e7
    have hlt : i.at_ < s.size := by have := of_decide_eq_true hat; omega
    have e := (rowG_stop hlt (st_b e2 e3 e4 e5 e6 e7)).trans hi.goes
    rw [← e] at hK
    conv => whnf
    refine Retold.list [] [] (.tup [strs [], bl false]) [(0, ⟨85, 3, [strV s, int1 i.at_, int1 i.line]⟩)] 1 (by kernel_rfl) ?_ ?_ hK
    iterate 2 · repeat' (first | exact DW.nilLst _ | exact DW.same _ rfl | exact DW.ref _ _ _ rfl | exact DW.arr _ _ _ rfl | exact OW.cells rfl rfl (DWl.same rfl) | refine OW.cells rfl rfl ?_ | refine DWl.cons ?_ ?_ | exact DWl.nil | exact DW.nilArr _ rfl | exact DW.nilLst _ | refine DW.clol ?_ ?_ | refine DW.aggl ?_ | refine DW.tupl ?_ | refine DW.int ?_ | refine DW.bool ?_ | refine DW.str ?_ | refine DW.arrE rfl ?_ | ((conv => whnf); first | refine And.intro ?_ ?_ | trivial))
  · rename_i hat e2 e3 e4 e5 e6 e7
    rw [hat] at h; cases h
  · rename_i hat e2 e3 e4 e5 e6
    have hlt : i.at_ < s.size := by have := of_decide_eq_true hat; omega
    have hst := st_p e2 e3 e4 e5 e6 h
    refine Round.go (fun _ => _) (rs_next hi hlt hst rfl ?_ ?_) (by show s.size - (i.at_ + 1) < s.size - i.at_; omega) (Weak.list [(1, some 1), (2, some 2), (3, some 3), (4, some 4), (5, some 7)] [] (by kernel_rfl) ?_ ?_)
    · exact Nat.le_succ _
    · exact Nat.le_of_eq (size_push s i.cell i.at_).symm
    iterate 2 · repeat' (first | exact wsucc hlt (by omega) | exact DWl.eq (bytes_push s i.cell i.at_) (bytesD_all _) | exact size_push s i.cell i.at_ | exact DWl.eq rfl (rowS_all _) | exact DWl.eq rfl (bytesD_all _) | exact DW.same _ rfl | exact DW.ref _ _ _ rfl | exact DW.arr _ _ _ rfl | exact OW.cells rfl rfl (DWl.same rfl) | refine OW.cells rfl rfl ?_ | refine DWl.cons ?_ ?_ | exact DWl.nil | exact DW.nilArr _ rfl | exact DW.nilLst _ | refine DW.clol ?_ ?_ | refine DW.aggl ?_ | refine DW.tupl ?_ | refine DW.int ?_ | refine DW.bool ?_ | refine DW.str ?_ | refine DW.arrE rfl ?_ | ((conv => whnf); first | refine And.intro ?_ ?_ | trivial))
  · simpa using h
  · rename_i hat
    have hge : s.size ≤ i.at_ := by have := of_decide_eq_false hat; omega
    rw [hat] at h
    have e := (rowG_fin hge).trans hi.goes
    rw [finR, show (i.st == 2) = true from h] at e
    rw [← e] at hK
    conv => whnf
    refine Retold.list [] [] (.tup [strs [], bl false]) [(0, ⟨85, 3, [strV s, int1 i.at_, int1 i.line]⟩)] 1 (by kernel_rfl) ?_ ?_ hK
    iterate 2 · repeat' (first | exact DW.nilLst _ | exact DW.same _ rfl | exact DW.ref _ _ _ rfl | exact DW.arr _ _ _ rfl | exact OW.cells rfl rfl (DWl.same rfl) | refine OW.cells rfl rfl ?_ | refine DWl.cons ?_ ?_ | exact DWl.nil | exact DW.nilArr _ rfl | exact DW.nilLst _ | refine DW.clol ?_ ?_ | refine DW.aggl ?_ | refine DW.tupl ?_ | refine DW.int ?_ | refine DW.bool ?_ | refine DW.str ?_ | refine DW.arrE rfl ?_ | ((conv => whnf); first | refine And.intro ?_ ?_ | trivial))
  · rename_i hat
    have hge : s.size ≤ i.at_ := by have := of_decide_eq_false hat; omega
    rw [hat] at h
    have e := (rowG_fin hge).trans hi.goes
    rw [finR, show (i.st == 2) = false from h] at e
    rw [← e] at hK
    conv => whnf
    refine Retold.list [] [7] (.tup [strs (i.l ++ [i.cell]), bl true]) [(0, ⟨85, 3, [strV s, int1 i.at_, int1 i.line]⟩)] 1 (by kernel_rfl) ?_ ?_ hK
    iterate 2 · repeat' (first | exact DW.pubE rfl rfl (Nat.zero_lt_succ _) (List.mem_singleton.2 rfl) (by rw [List.length_map, List.length_append]; rfl) strRow (rs_pushF i) | exact DW.same _ rfl | exact DW.ref _ _ _ rfl | exact DW.arr _ _ _ rfl | exact OW.cells rfl rfl (DWl.same rfl) | refine OW.cells rfl rfl ?_ | refine DWl.cons ?_ ?_ | exact DWl.nil | exact DW.nilArr _ rfl | exact DW.nilLst _ | refine DW.clol ?_ ?_ | refine DW.aggl ?_ | refine DW.tupl ?_ | refine DW.int ?_ | refine DW.bool ?_ | refine DW.str ?_ | refine DW.arrE rfl ?_ | ((conv => whnf); first | refine And.intro ?_ ?_ | trivial))
end Go.Proofs.YtlchjjchgebfiaaGreatDoor
namespace Go.Proofs.YtlchjjchgebfiaaGreatDoor
open Go.RowKit Go.Dl
theorem pre_len {l p : List UInt8} (h : Lib.hasPrefix l p = true) : p.length ≤ l.length := by
  unfold Lib.hasPrefix at h
  exact (List.isPrefixOf_iff_prefix.1 h).length_le
theorem ext_len (s : ByteArray) (a : Nat) : (s.extract a s.size).data.toList.length = s.size - a := by
  rw [sz_len, ByteArray.size_extract, Nat.min_self]
theorem endR_in {s : ByteArray} {a : Nat} (h : a ≤ s.size) : a + (endR s a).toNat ≤ s.size := by
  unfold endR
  cases h1 : Lib.hasPrefix (s.extract a s.size).data.toList [10] with
  | true =>
    have := pre_len h1
    rw [ext_len] at this
    show a + 1 ≤ _
    simp at this; omega
  | false =>
    cases h2 : Lib.hasPrefix (s.extract a s.size).data.toList [13, 10] with
    | true =>
      have := pre_len h2
      rw [ext_len] at this
      show a + 2 ≤ _
      simp at this; omega
    | false => show a + 0 ≤ _
               omega
structure RSb (s : ByteArray) (i : RS) : Prop where
  at_ : i.at_ ≤ s.size
  l : i.l.length ≤ i.at_
  cell : i.cell.size ≤ i.at_
  cells : ∀ x ∈ i.l, x.size ≤ s.size
structure RRb (s : ByteArray) (a : Nat) (r : RR) : Prop where
  at_ : r.at_ ≤ s.size
  row : r.row.length ≤ s.size + 1
  cells : ∀ x ∈ r.row, x.size ≤ s.size
  goes : r.ok = true → a < r.at_ ∨ r.at_ = s.size
theorem push_small {s : ByteArray} {i : RS} (h : RSb s i) : ∀ x ∈ i.l ++ [i.cell], x.size ≤ s.size := by
  intro x hx
  rw [List.mem_append, List.mem_singleton] at hx
  rcases hx with hx | hx
  · exact h.cells x hx
  · subst hx; have := h.cell; have := h.at_; omega
theorem fin_small {s : ByteArray} {i : RS} (h : RSb s i) (hat : i.at_ = s.size) (a : Nat) : RRb s a (finR i) := by
  unfold finR
  cases i.st == 2 with
  | true => exact ⟨h.at_, Nat.zero_le _, (by intro x hx; cases hx), fun h => by cases h⟩
  | false => exact ⟨h.at_, (by show (i.l ++ [i.cell]).length ≤ _
                               have := h.l; rw [List.length_append, List.length_singleton]; omega), push_small h, fun _ => .inr hat⟩
def StepOk (s : ByteArray) (i : RS) : Prop := (∀ j, stepR s i = .more j → RSb s j ∧ j.at_ = i.at_ + 1) ∧ ∀ r, stepR s i = .stop r → RRb s i.at_ r
theorem mk_more {s : ByteArray} {i j0 : RS} (he : stepR s i = .more j0) (hb : RSb s j0) (ha : j0.at_ = i.at_ + 1) : StepOk s i :=
  ⟨fun j hj => (by rw [he] at hj; cases hj; exact ⟨hb, ha⟩), fun r hr => (by rw [he] at hr; cases hr)⟩
theorem mk_stop {s : ByteArray} {i : RS} {r0 : RR} (he : stepR s i = .stop r0) (hb : RRb s i.at_ r0) : StepOk s i :=
  ⟨fun j hj => (by rw [he] at hj; cases hj), fun r hr => (by rw [he] at hr; cases hr; exact hb)⟩
theorem step_small {s : ByteArray} {i : RS} (h : RSb s i) (hlt : i.at_ < s.size) : StepOk s i := by
  have hb : (i.cell ++ byB s i.at_).size ≤ i.at_ + 1 := by rw [← size_push]; have := h.cell; omega
  have h0 : emB.size = 0 := rfl
  have h1 := h.l
  have h2 := h.cell
  have h3 := push_small h
  have h4 := endR_in h.at_
  have hl : (i.l ++ [i.cell]).length ≤ i.at_ + 1 := by rw [List.length_append, List.length_singleton]; omega
  cases e1 : i.st == 2 with
  | true =>
    cases e2 : byteAt s i.at_ == 34 with
    | true => exact mk_more (st_q1 e1 e2) ⟨hlt, by show i.l.length ≤ i.at_ + 1; omega, by show i.cell.size ≤ i.at_ + 1; omega, h.cells⟩ rfl
    | false => exact mk_more (st_q2 e1 e2) ⟨hlt, by show i.l.length ≤ i.at_ + 1; omega, hb, h.cells⟩ rfl
  | false =>
    cases e2 : decide (0 < endR s i.at_) with
    | true =>
      have e5 := of_decide_eq_true e2
      exact mk_stop (st_e e1 e2) ⟨h4, by show (i.l ++ [i.cell]).length ≤ _; omega, h3, fun _ => .inl (by show i.at_ < i.at_ + (endR s i.at_).toNat; omega)⟩
    | false =>
      cases e3 : byteAt s i.at_ == 44 with
      | true => exact mk_more (st_c e1 e2 e3) ⟨hlt, hl, by show emB.size ≤ _; omega, h3⟩ rfl
      | false =>
        cases e4 : (bif i.st == 3 then byteAt s i.at_ == 34 else false) with
        | true => exact mk_more (st_d e1 e2 e3 e4) ⟨hlt, by show i.l.length ≤ i.at_ + 1; omega, hb, h.cells⟩ rfl
        | false =>
          cases e5 : (bif i.st == 0 then byteAt s i.at_ == 34 else false) with
          | true => exact mk_more (st_o e1 e2 e3 e4 e5) ⟨hlt, by show i.l.length ≤ i.at_ + 1; omega, by show i.cell.size ≤ i.at_ + 1; omega, h.cells⟩ rfl
          | false =>
            cases e6 : (bif i.st == 3 then true else byteAt s i.at_ == 34) with
            | true => exact mk_stop (st_b e1 e2 e3 e4 e5 e6) ⟨h.at_, Nat.zero_le _, (by intro x hx; cases hx), fun h => by cases h⟩
            | false => exact mk_more (st_p e1 e2 e3 e4 e5 e6) ⟨hlt, by show i.l.length ≤ i.at_ + 1; omega, hb, h.cells⟩ rfl
theorem rowF_small {s : ByteArray} : ∀ (n : Nat) {i : RS}, RSb s i → i.at_ + n = s.size → ∀ a, a ≤ i.at_ → RRb s a (rowF s n i)
  | 0, i, h, hn, a, _ => fin_small h (by omega) a
  | n + 1, i, h, hn, a, ha => by
    obtain ⟨k1, k2⟩ := step_small h (by omega)
    rw [rowF]
    split
    · rename_i j hj
      obtain ⟨h1, h2⟩ := k1 j hj
      exact rowF_small n h1 (by omega) a (by omega)
    · rename_i r hr
      have := k2 r hr
      exact ⟨this.at_, this.row, this.cells, fun h => (this.goes h).imp (fun h => by omega) id⟩
theorem rowG_small {s : ByteArray} {a : Nat} (h : a ≤ s.size) (ln : Int) : RRb s a (rowG s ⟨0, emB, [], a, ln⟩) := by
  unfold rowG
  exact rowF_small _ ⟨h, Nat.zero_le _, Nat.zero_le _, fun x hx => by cases hx⟩ (by show a + (s.size - a) = _; omega) a (Nat.le_refl _)
theorem sml_row {s : ByteArray} {a : Nat} {r : RR} (h : RRb s a r) (hs : s.size ≤ 1099511627776) : Sml r.row := by
  have := h.row
  exact ⟨by omega, fun x hx => by have := h.cells x hx; omega⟩
end Go.Proofs.YtlchjjchgebfiaaGreatDoor
namespace Go.Proofs.YtlchjjchgebfiaaGreatDoor
open Go.RowKit Go.Dl
attribute [local irreducible] Tri SCall TSem ECall Drawn DFun QSem PSem PCall GCall MCall Round Weak dloadE OW DWl Tells IntKind.wrap Retold ESem
structure TS where
  head : List ByteArray
  rows : List (List ByteArray)
  at_ : Nat
  line : Int
  left : Nat
structure TR where
  t : Tb
  line : Int
  err : Int
def rowT (s : ByteArray) (i : TS) : RR := rowG s ⟨0, emB, [], i.at_, i.line⟩
def lenI (l : List ByteArray) : Int := ((l.map strD).length : Nat)
def eT (s : ByteArray) (i : TS) : Int :=
  bif !(rowT s i).ok then 20
  else bif lenI i.head == 0 then (bif (bif decide (64 < lenI (rowT s i).row) then true else !rowB (rowT s i).row (lenI (rowT s i).row)) then 30 else 0)
  else bif lenI (rowT s i).row != lenI i.head then 31
  else (bif (bif decide (4096 < ((i.rows.length + 1 : Nat) : Int)) then true else !rowB (rowT s i).row (lenI i.head)) then 30 else 0)
def nextT (s : ByteArray) (i : TS) : TS :=
  bif lenI i.head == 0 then ⟨(rowT s i).row, i.rows, (rowT s i).at_, (rowT s i).line, i.left - 1⟩
  else ⟨i.head, i.rows ++ [(rowT s i).row], (rowT s i).at_, (rowT s i).line, i.left - 1⟩
def readF (s : ByteArray) : Nat → TS → TR
  | 0, i => ⟨⟨i.head, i.rows⟩, 0, 0⟩
  | n + 1, i => bif decide (i.at_ < s.size) then (bif eT s i == 0 then readF s n (nextT s i) else ⟨⟨[], []⟩, i.line, eT s i⟩) else ⟨⟨i.head, i.rows⟩, 0, 0⟩
def readG (s : ByteArray) (i : TS) : TR := readF s i.left i
def start (s : ByteArray) : TS := ⟨[], [], 0, 1, s.size⟩
def readT (s : ByteArray) : TR := bif s == emB then ⟨⟨[], []⟩, 0, 50⟩ else readG s (start s)
def rowsC (l : List (List ByteArray)) : List DV := (l.map rowD).flatten
def faultD (l e : Int) : DV := .agg [int1 l, int1 e]
def tsSt (s : ByteArray) (i : TS) : St := ⟨0, tmOf [(0, strV s), (2, .ref 0 0), (3, .ref 1 0), (4, .ref 2 0), (5, .ref 3 0)], .of [(0, ⟨25, 2, [.v (.slice none 0 0), .v (.slice none 0 0)]⟩), (1, ⟨33, 2, [int1 0, int1 0]⟩), (2, ⟨25, 2, [strs i.head, .arr 4 i.rows.length]⟩), (3, ⟨85, 3, [strV s, int1 i.at_, int1 i.line]⟩), (4, ⟨22, 1, rowsC i.rows⟩)] 5⟩
structure TSok (s : ByteArray) (i : TS) : Prop where
  at_ : i.at_ ≤ s.size
  left : s.size - i.at_ ≤ i.left
  rows : i.rows.length ≤ 4096
  goes : readG s i = readG s (start s)
theorem rowsC_nil : rowsC [] = [] := rfl
theorem row48_S (s : ByteArray) (hs : s.size ≤ 1099511627776) (i : TS) (ha : i.at_ ≤ s.size) : SCall Tryz.prog 48 [.ref 0 0] (.of [(0, ⟨85, 3, [strV s, int1 i.at_, int1 i.line]⟩)] 1) fun r' s' => r' = .tup [strs (rowT s i).row, bl (rowT s i).ok] ∧ s' = .of [(0, ⟨85, 3, [strV s, int1 (rowT s i).at_, int1 (rowT s i).line]⟩)] 1 :=
  row48_K s hs i.at_ i.line ha ⟨rfl, rfl⟩
theorem rowT_small {s : ByteArray} {i : TS} (h : i.at_ ≤ s.size) : RRb s i.at_ (rowT s i) := rowG_small h i.line
section
variable {s : ByteArray} {i : TS}
theorem e_20 (h1 : (!(rowT s i).ok) = true) : eT s i = 20 := by unfold eT; rw [h1]; rfl
theorem e_hd (h1 : (!(rowT s i).ok) = false) (h2 : (((i.head.map strD).length : Int) == 0) = true) (h3 : (bif decide (64 < (((rowT s i).row.map strD).length : Int)) then true else !rowB (rowT s i).row (((rowT s i).row.map strD).length : Nat)) = true) : eT s i = 30 := by unfold eT lenI; rw [h1, h2, h3]; rfl
theorem e_h0 (h1 : (!(rowT s i).ok) = false) (h2 : (((i.head.map strD).length : Int) == 0) = true) (h3 : (bif decide (64 < (((rowT s i).row.map strD).length : Int)) then true else !rowB (rowT s i).row (((rowT s i).row.map strD).length : Nat)) = false) : eT s i = 0 := by unfold eT lenI; rw [h1, h2, h3]; rfl
theorem e_31 (h1 : (!(rowT s i).ok) = false) (h2 : (((i.head.map strD).length : Int) == 0) = false) (h3 : ((((rowT s i).row.map strD).length : Int) != ((i.head.map strD).length : Nat)) = true) : eT s i = 31 := by unfold eT lenI; rw [h1, h2, h3]; rfl
theorem e_rw (h1 : (!(rowT s i).ok) = false) (h2 : (((i.head.map strD).length : Int) == 0) = false) (h3 : ((((rowT s i).row.map strD).length : Int) != ((i.head.map strD).length : Nat)) = false) (h4 : (bif decide (4096 < ((i.rows.length + 1 : Nat) : Int)) then true else !rowB (rowT s i).row ((i.head.map strD).length : Nat)) = true) : eT s i = 30 := by unfold eT lenI; rw [h1, h2, h3, h4]; rfl
theorem e_r0 (h1 : (!(rowT s i).ok) = false) (h2 : (((i.head.map strD).length : Int) == 0) = false) (h3 : ((((rowT s i).row.map strD).length : Int) != ((i.head.map strD).length : Nat)) = false) (h4 : (bif decide (4096 < ((i.rows.length + 1 : Nat) : Int)) then true else !rowB (rowT s i).row ((i.head.map strD).length : Nat)) = false) : eT s i = 0 := by unfold eT lenI; rw [h1, h2, h3, h4]; rfl
theorem next_h (h2 : (((i.head.map strD).length : Int) == 0) = true) : nextT s i = ⟨(rowT s i).row, i.rows, (rowT s i).at_, (rowT s i).line, i.left - 1⟩ := by unfold nextT lenI; rw [h2]; rfl
theorem next_r (h2 : (((i.head.map strD).length : Int) == 0) = false) : nextT s i = ⟨i.head, i.rows ++ [(rowT s i).row], (rowT s i).at_, (rowT s i).line, i.left - 1⟩ := by unfold nextT lenI; rw [h2]; rfl
theorem rg_next {j : TS} (hlt : i.at_ < s.size) (hl : 1 ≤ i.left) (he : eT s i = 0) (hj : nextT s i = j) (hjl : j.left = i.left - 1) : readG s j = readG s i := by
  obtain ⟨k, hk⟩ : ∃ k, i.left = k + 1 := ⟨i.left - 1, by omega⟩
  unfold readG
  rw [hk, readF, decide_eq_true hlt, he, hj, hjl, hk]; rfl
theorem rg_err {x : Int} (hlt : i.at_ < s.size) (hl : 1 ≤ i.left) (he : eT s i = x) (hx : (x == 0) = false) : readG s i = ⟨⟨[], []⟩, i.line, x⟩ := by
  obtain ⟨k, hk⟩ : ∃ k, i.left = k + 1 := ⟨i.left - 1, by omega⟩
  unfold readG
  rw [hk, readF, decide_eq_true hlt, he, hx]; rfl
theorem rg_fin (hge : s.size ≤ i.at_) : readG s i = ⟨⟨i.head, i.rows⟩, 0, 0⟩ := by
  unfold readG
  cases i.left with
  | zero => rfl
  | succ k => rw [readF, decide_eq_false (by omega)]; rfl
theorem readT_ne (h : (s == emB) = false) : readT s = readG s (start s) := by rw [readT, h]; rfl
theorem ts_left (hi : TSok s i) (hlt : i.at_ < s.size) : 1 ≤ i.left := by have := hi.left; omega
theorem ts_next {j : TS} (hi : TSok s i) (hlt : i.at_ < s.size) (hok : (!(rowT s i).ok) = false) (he : eT s i = 0) (hj : nextT s i = j) (hjl : j.left = i.left - 1) (hja : j.at_ = (rowT s i).at_) (hjr : j.rows.length ≤ 4096) : TSok s j := by
  have h1 := rowT_small (i := i) hi.at_
  have h2 := h1.goes (by simpa using hok)
  have h3 := h1.at_
  have h4 := hi.left
  exact ⟨by omega, by omega, hjr, (rg_next hlt (ts_left hi hlt) he hj hjl).trans hi.goes⟩
theorem rd_err {x : Int} (hne : (s == emB) = false) (hi : TSok s i) (hlt : i.at_ < s.size) (he : eT s i = x) (hx : (x == 0) = false) : readT s = ⟨⟨[], []⟩, i.line, x⟩ := by
  rw [readT_ne hne, ← hi.goes, rg_err hlt (ts_left hi hlt) he hx]
theorem rd_fin (hne : (s == emB) = false) (hi : TSok s i) (hge : s.size ≤ i.at_) : readT s = ⟨⟨i.head, i.rows⟩, 0, 0⟩ := by
  rw [readT_ne hne, ← hi.goes, rg_fin hge]
end
theorem rowsC_len (l : List (List ByteArray)) : (rowsC l).length = l.length := by
  induction l with
  | nil => rfl
  | cons a l ih => show (rowD a ++ rowsC l).length = _
                   rw [List.length_append, ih]; simp [rowD]; omega
theorem rowsC_all (l : List (List ByteArray)) : (rowsC l).all noId1 = true := by
  induction l with
  | nil => rfl
  | cons a l ih => show (rowD a ++ rowsC l).all noId1 = _
                   rw [List.all_append, ih]; rfl
theorem rowsC_push (l : List (List ByteArray)) (x : List ByteArray) : (rowsC l).take (l.length * 1) ++ [strs x] = rowsC (l ++ [x]) := by
  rw [List.take_of_length_le (by rw [rowsC_len]; omega)]
  simp [rowsC, rowD]
theorem rowRow {l : List (List ByteArray)} : ∀ r ∈ l.map rowD, r.length = 1 ∧ r.all isData1 = true := by
  intro r hr
  obtain ⟨x, _, rfl⟩ := List.mem_map.1 hr
  exact ⟨rfl, rfl⟩
theorem rows_pl (l : List (List ByteArray)) (x : List ByteArray) : l.length + 1 = (l ++ [x]).length := by simp
theorem rowsC_eq (l : List (List ByteArray)) : rowsC l = (l.map rowD).flatten := rfl
set_option maxRecDepth 20000 in
theorem rc_b1 (l : List (List ByteArray)) : l.length * Tryz.prog.types[22].size ≤ (rowsC l).length := by
  rw [rowsC_len]
  show l.length * 1 ≤ _
  omega
set_option maxRecDepth 20000 in
theorem rc_b2 {n : Nat} (h : n ≤ 4096) : (n + 1) * Tryz.prog.types[22].bytes ≤ 140737488355328 := by
  show (n + 1) * 24 ≤ _
  omega
theorem rc_b3 {n : Nat} (h : n ≤ 4096) : n + 1 ≤ maxLen := by simp only [maxLen]; omega
theorem rows_lt {n : Nat} {b : Bool} (h : (bif decide (4096 < ((n + 1 : Nat) : Int)) then true else b) = false) : n + 1 ≤ 4096 := by
  rcases Nat.lt_or_ge 4096 (n + 1) with h1 | h1
  · rw [decide_eq_true (by omega)] at h; cases h
  · exact h1
attribute [local irreducible] rowsC rowB readG rowT eT
set_option maxRecDepth 20000 in
set_option maxHeartbeats 4000000 in
theorem read17_D (s : ByteArray) (hs : s.size ≤ 1099511627776) : DPure Tryz.prog 17 [strV s] (.tup [tab (readT s).t, faultD (readT s).line (readT s).err]) := by
  refine DFun.data (DFun.body Tryz.func17 rfl (by kernel_rfl) ?_)
  repeat' (first | with_reducible rfl | ((conv => whnf); first | refine And.intro ?_ ?_ | (intro h; first | with_reducible exact tf_no h | with_reducible exact ft_no h | exact Bool.noConfusion h | with_reducible exact h | (have ht : true = true := h; clear ht h) | skip) | ((with_reducible refine ECall.mark ?_); first | refine ECall.only ?_ (fun h => nomatch h) | refine ECall.only ?_ ?_) | ((with_reducible refine Drawn.mark ?_); first | refine Drawn.quiet (by kernel_rfl) ?_) | refine dcell_ok rfl ?_ | refine AppC.new ?_))
  all_goals first | (with_reducible refine enters_mark ?_; kernel_rfl) | (with_reducible refine boolT_mark ?_; kernel_rfl) | rfl | trivial | assumption | exact Nat.le_of_ble_eq_true rfl | (show entersB _ _ = true; kernel_rfl) | exact DW.same _ rfl | exact DW.ref _ _ _ rfl | exact DW.arr _ _ _ rfl | refine DW.int ?_ | refine dvb ?_ | refine dvi ?_ | exact OW.cells rfl rfl (DWl.same rfl) | exact Nat.zero_le _ | omega | skip
  all_goals repeat' (first | refine OW.cells rfl rfl ?_ | exact DW.nilArr _ rfl | refine DWl.cons ?_ ?_ | exact DWl.nil | exact DW.same _ rfl | exact DW.ref _ _ _ rfl | exact DW.arr _ _ _ rfl | exact DW.sub _ _ _ _ rfl | exact DW.mo _ _ rfl | exact DW.nilLst _ | refine DW.aggl ?_ | refine DW.tupl ?_ | refine DW.clol ?_ ?_)
  all_goals try ((conv => whnf); with_reducible first | refine Round.mark ?_ | refine Tells.mark ?_ | refine Retold.mark ?_)
  all_goals try first | (show (_ : Bool) = _; simp_all; done) | (show (_ : Int) < _; simp at *; omega) | (show (_ : Int) ≤ _; simp at *; omega) | (show (_ : Nat) < _; simp at *; omega) | (show (_ : Nat) ≤ _; simp at *; omega)
  · conv => whnf
    refine Tells.of (r1 := .tup [tab ⟨[], []⟩, faultD 0 50]) (by rw [readT, show (s == emB) = true from h]; rfl) (Tells.mk (DW.tupl (DWl.cons (DW.aggl (DWl.cons (DW.nilLst _) (DWl.cons (DW.nilLst _) DWl.nil))) (DWl.cons (DW.aggl (DWl.same rfl)) DWl.nil))))
  · have hne : (s == emB) = false := h
    conv => whnf
    refine Tri.loop (tsSt s) (TSok s) (fun i => i.left) (start s) (by kernel_rfl) (Weak.list [(0, some 0), (1, some 1), (2, some 2), (3, some 3), (4, none)] [] (by kernel_rfl) ?_ ?_) ⟨Nat.zero_le _, Nat.le_refl _, Nat.zero_le _, rfl⟩ ?_
    iterate 2 · repeat' (first | exact rowsC_nil | exact DW.nilArr _ rfl | exact DW.nilLst _ | exact DW.same _ rfl | exact DW.ref _ _ _ rfl | exact DW.arr _ _ _ rfl | exact OW.cells rfl rfl (DWl.same rfl) | refine OW.cells rfl rfl ?_ | refine DWl.cons ?_ ?_ | exact DWl.nil | exact DW.nilArr _ rfl | exact DW.nilLst _ | refine DW.clol ?_ ?_ | refine DW.aggl ?_ | refine DW.tupl ?_ | refine DW.int ?_ | refine DW.bool ?_ | refine DW.str ?_ | refine DW.arrE rfl ?_ | ((conv => whnf); first | refine And.intro ?_ ?_ | trivial))
    intro i hi
    have hsm := rowT_small hi.at_
    have hr := fun n => row49_D (rowT s i).row n (sml_row hsm hs)
    show dcode _ _ _ _ (tsSt s i) _
    repeat' (first | with_reducible rfl | ((conv => whnf); first | refine And.intro ?_ ?_ | (intro h; first | with_reducible exact tf_no h | with_reducible exact ft_no h | exact Bool.noConfusion h | with_reducible exact h | (have ht : true = true := h; clear ht h) | skip) | ((with_reducible refine SCall.mark ?_); first | refine SCall.data (hr _) rfl rfl ?_ | refine SCall.scal (hr _) rfl rfl ?_ | refine SCall.at [3] (fun _ => [(3, ⟨85, 3, [strV s, int1 (rowT s i).at_, int1 (rowT s i).line]⟩)]) (fun _ => .tup [strs (rowT s i).row, bl (rowT s i).ok]) 0 (row48_S s hs i hi.at_) (by kernel_rfl) ⟨OW.cells rfl rfl (DWl.same rfl), trivial⟩ (DWl.cons (DW.ref _ _ _ rfl) DWl.nil) (DW.tupl (DWl.cons (DW.same _ rfl) (DWl.cons (DW.same _ rfl) DWl.nil))) ⟨OW.cells rfl rfl (DWl.same rfl), trivial⟩ ?_) | ((with_reducible refine PCall.mark ?_); first | refine PCall.mk (hr _) rfl rfl ?_) | ((with_reducible refine GCall.mark ?_); first | refine GCall.data (fun _ => hr _) rfl rfl ?_ | refine GCall.scal (fun _ => hr _) rfl rfl ?_) | ((with_reducible refine MCall.mark ?_); first | refine MCall.data (fun _ => hr _) rfl rfl ?_ | refine MCall.plain (PCall.mk (hr _) rfl rfl ?_)) | ((with_reducible refine ECall.mark ?_); first | refine ECall.only ?_ (fun h => nomatch h) | refine ECall.only ?_ ?_) | ((with_reducible refine Drawn.mark ?_); first | refine Drawn.quiet (by kernel_rfl) ?_) | refine dcell_ok rfl ?_ | refine AppC.new ?_))
    all_goals try ((conv => whnf); with_reducible refine Round.mark ?_)
    all_goals try first | ((with_reducible show Option.isSome (slElem _ _) = true); kernel_rfl) | ((with_reducible show slElem _ _ = some _); kernel_rfl) | ((with_reducible refine enters_mark ?_); kernel_rfl) | (with_reducible assumption) | ((with_reducible show List.all _ DV.one = true); rfl) | ((with_reducible show (_ : Nat) = _); rfl) | ((with_reducible show (_ == true) = true); simpa using h) | ((with_reducible show (_ : Nat) ≤ _); exact Nat.le_of_ble_eq_true rfl) | ((with_reducible show (_ : Int) ≤ _); first | omega | decide) | ((with_reducible show (_ : Int) < _); first | omega | decide) | ((with_reducible show (_ : Nat) < _); omega) | ((with_reducible show (_ : Nat) ≤ _); omega)
    · rfl
    · exact Nat.zero_lt_succ _
    · exact Nat.lt_succ_self _
    · rename_i hat
      have hlt : i.at_ < s.size := by have := of_decide_eq_true hat; omega
      conv => whnf
      refine Tells.of (r1 := .tup [tab ⟨[], []⟩, faultD i.line 20]) (by rw [rd_err hne hi hlt (e_20 h) rfl]) (Tells.mk (DW.tupl (DWl.cons (DW.aggl (DWl.cons (DW.nilLst _) (DWl.cons (DW.nilLst _) DWl.nil))) (DWl.cons (DW.aggl (DWl.same rfl)) DWl.nil))))
    · simpa using h
    · rename_i hat h1 h2
      have hlt : i.at_ < s.size := by have := of_decide_eq_true hat; omega
      conv => whnf
      refine Tells.of (r1 := .tup [tab ⟨[], []⟩, faultD i.line 30]) (by rw [rd_err hne hi hlt (e_hd h1 h2 h) rfl]) (Tells.mk (DW.tupl (DWl.cons (DW.aggl (DWl.cons (DW.nilLst _) (DWl.cons (DW.nilLst _) DWl.nil))) (DWl.cons (DW.aggl (DWl.same rfl)) DWl.nil))))
    · rename_i hat h1 h2 h3
      have hlt : i.at_ < s.size := by have := of_decide_eq_true hat; omega
      have hl := ts_left hi hlt
      refine Round.go (fun _ => _) (ts_next hi hlt h1 (e_h0 h1 h2 h3) (next_h h2) rfl rfl hi.rows) (by show i.left - 1 < i.left; omega) (Weak.list [(0, some 0), (1, some 1), (2, some 2), (3, some 3), (4, some 4)] [] (by kernel_rfl) ?_ ?_)
      iterate 2 · repeat' (first | exact DWl.eq rfl (rowsC_all _) | exact DWl.same rfl | exact DW.same _ rfl | exact DW.ref _ _ _ rfl | exact DW.arr _ _ _ rfl | exact OW.cells rfl rfl (DWl.same rfl) | refine OW.cells rfl rfl ?_ | refine DWl.cons ?_ ?_ | exact DWl.nil | exact DW.nilArr _ rfl | exact DW.nilLst _ | refine DW.clol ?_ ?_ | refine DW.aggl ?_ | refine DW.tupl ?_ | refine DW.int ?_ | refine DW.bool ?_ | refine DW.str ?_ | refine DW.arrE rfl ?_ | ((conv => whnf); first | refine And.intro ?_ ?_ | trivial))
    · rename_i hat h1 h2
      have hlt : i.at_ < s.size := by have := of_decide_eq_true hat; omega
      conv => whnf
      refine Tells.of (r1 := .tup [tab ⟨[], []⟩, faultD i.line 31]) (by rw [rd_err hne hi hlt (e_31 h1 h2 h) rfl]) (Tells.mk (DW.tupl (DWl.cons (DW.aggl (DWl.cons (DW.nilLst _) (DWl.cons (DW.nilLst _) DWl.nil))) (DWl.cons (DW.aggl (DWl.same rfl)) DWl.nil))))
    · exact rc_b1 _
    · exact rc_b2 hi.rows
    · exact rc_b3 hi.rows
    · simpa using h
    · rename_i hat h1 h2 h3
      have hlt : i.at_ < s.size := by have := of_decide_eq_true hat; omega
      conv => whnf
      refine Tells.of (r1 := .tup [tab ⟨[], []⟩, faultD i.line 30]) (by rw [rd_err hne hi hlt (e_rw h1 h2 h3 h) rfl]) (Tells.mk (DW.tupl (DWl.cons (DW.aggl (DWl.cons (DW.nilLst _) (DWl.cons (DW.nilLst _) DWl.nil))) (DWl.cons (DW.aggl (DWl.same rfl)) DWl.nil))))
    · rename_i hat h1 h2 h3 h4
      have hlt : i.at_ < s.size := by have := of_decide_eq_true hat; omega
      have hl := ts_left hi hlt
      refine Round.go (fun _ => _) (ts_next hi hlt h1 (e_r0 h1 h2 h3 h4) (next_r h2) rfl rfl (by rw [List.length_append]; exact rows_lt h4)) (by show i.left - 1 < i.left; omega) (Weak.list [(0, some 0), (1, some 1), (2, some 2), (3, some 3), (4, some 6)] [] (by kernel_rfl) ?_ ?_)
      iterate 2 · repeat' (first | exact DWl.eq (rowsC_push _ _) (rowsC_all _) | exact rows_pl _ _ | exact DWl.same rfl | exact DW.same _ rfl | exact DW.ref _ _ _ rfl | exact DW.arr _ _ _ rfl | exact OW.cells rfl rfl (DWl.same rfl) | refine OW.cells rfl rfl ?_ | refine DWl.cons ?_ ?_ | exact DWl.nil | exact DW.nilArr _ rfl | exact DW.nilLst _ | refine DW.clol ?_ ?_ | refine DW.aggl ?_ | refine DW.tupl ?_ | refine DW.int ?_ | refine DW.bool ?_ | refine DW.str ?_ | refine DW.arrE rfl ?_ | ((conv => whnf); first | refine And.intro ?_ ?_ | trivial))
    · have hge : s.size ≤ i.at_ := by have := of_decide_eq_false h; omega
      conv => whnf
      refine Tells.of (r1 := .tup [tab ⟨i.head, i.rows⟩, faultD 0 0]) (by rw [rd_fin hne hi hge]) (Tells.mk (DW.tupl (DWl.cons (DW.aggl (DWl.cons (DW.same _ rfl) (DWl.cons (DW.pubM rfl rfl rfl rfl rowRow (rowsC_eq _)) DWl.nil))) (DWl.cons (DW.aggl (DWl.same rfl)) DWl.nil))))
end Go.Proofs.YtlchjjchgebfiaaGreatDoor
