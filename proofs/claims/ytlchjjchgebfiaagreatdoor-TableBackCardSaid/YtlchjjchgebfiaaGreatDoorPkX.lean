/- Read: a row's end, as the document sees it; the document's row, state by state. -/
import Derived.Test.YtlchjjchgebfiaaGreatDoorPkQ
import Derived.Test.YtlchjjchgebfiaaGreatDoorPkA
import Derived.Test.YtlchjjchgebfiaaGreatDoorPkU

namespace Go.Proofs.YtlchjjchgebfiaaGreatDoor
open Go.RowKit Go.Dl
attribute [local irreducible] Tri SCall TSem ECall Drawn DFun QSem PSem PCall GCall MCall Round Weak dloadE OW DWl Tells IntKind.wrap Retold ESem
theorem u8_int (b : UInt8) (n : Nat) (hn : n < 256) : (((b.toNat : Nat) : Int) == (n : Int)) = (b == UInt8.ofNat n) := by
  rw [Bool.eq_iff_iff, beq_iff_eq, beq_iff_eq]
  constructor
  · intro h
    have h : b.toNat = n := by omega
    exact UInt8.toNat_inj.1 (by rw [h, UInt8.toNat_ofNat']; omega)
  · intro h
    subst h
    rw [UInt8.toNat_ofNat']; omega
theorem ext_list (s : ByteArray) (a : Nat) : (s.extract a s.size).data.toList = s.data.toList.drop a := by
  rw [ByteArray.data_extract, Array.toList_extract, List.extract_eq_take_drop]
  exact List.take_of_length_le (by rw [List.length_drop, sz_len]; exact Nat.le_refl _)
theorem drop_at {s : ByteArray} {a : Nat} (h : a < s.size) : s.data.toList.drop a = s.data.toList.getD a 0 :: s.data.toList.drop (a + 1) := by
  rw [List.drop_eq_getElem_cons (by rw [sz_len]; exact h), getD_lt (by rw [sz_len]; exact h)]
theorem pre10 {s : ByteArray} {a : Nat} (h : a < s.size) : Lib.hasPrefix (s.extract a s.size).data.toList [10] = (byteAt s a == 10) := by
  rw [ext_list, drop_at h]
  show ([10] : List UInt8).isPrefixOf _ = _
  rw [show (byteAt s a == 10) = (s.data.toList.getD a 0 == UInt8.ofNat 10) from u8_int _ 10 (by decide)]
  rw [List.isPrefixOf, List.isPrefixOf_nil_left, Bool.and_true, Bool.beq_comm]
  rfl
theorem pre1310 {s : ByteArray} {a : Nat} (h : a < s.size) : Lib.hasPrefix (s.extract a s.size).data.toList [13, 10] = bif byteAt s a == 13 then (bif decide (a + 1 < s.size) then byteAt s (a + 1) == 10 else false) else false := by
  rw [ext_list, drop_at h]
  show ([13, 10] : List UInt8).isPrefixOf _ = _
  rw [show (byteAt s a == 13) = (s.data.toList.getD a 0 == UInt8.ofNat 13) from u8_int _ 13 (by decide)]
  rw [List.isPrefixOf, Bool.beq_comm]
  change (s.data.toList.getD a 0 == UInt8.ofNat 13 && _) = _
  cases s.data.toList.getD a 0 == UInt8.ofNat 13 with
  | false => rfl
  | true =>
    rcases Nat.lt_or_ge (a + 1) s.size with h1 | h1
    · rw [decide_eq_true h1, ← pre10 h1, ext_list]; rfl
    · rw [decide_eq_false (by omega), List.drop_eq_nil_of_le (by rw [sz_len]; exact h1)]; rfl
/-- What the document's ends tells. -/
def endX (s : ByteArray) (a : Nat) : Int := bif decide (s.size ≤ a) then 1 else endR s a
theorem endR_lt {s : ByteArray} {a : Nat} (h : a < s.size) : endR s a = bif byteAt s a == 10 then 1 else bif (bif byteAt s a == 13 then (bif decide (a + 1 < s.size) then byteAt s (a + 1) == 10 else false) else false) then 2 else 0 := by
  rw [endR, pre10 h, pre1310 h]
theorem endX_ge {s : ByteArray} {a : Nat} (h : s.size ≤ a) : endX s a = 1 := by rw [endX, decide_eq_true h]; rfl
theorem endX_lt {s : ByteArray} {a : Nat} (h : a < s.size) : endX s a = endR s a := by rw [endX, decide_eq_false (by omega)]; rfl
theorem ends_ge {n a : Nat} (h : decide ((n : Int) ≤ (a : Int)) = true) : n ≤ a := by simpa using h
theorem ends_lt {n a : Nat} (h : decide ((n : Int) ≤ (a : Int)) = false) : a < n := by simpa using h
theorem ends_nx (s : ByteArray) {a : Nat} (h : a < s.size) (hs : s.size ≤ 1099511627776) : (bif bif byteAt s (a : Int).toNat == 13 then decide (IntKind.i64.wrap ((a : Int) + 1) < s.size) else false then byteAt s (IntKind.i64.wrap ((a : Int) + 1)).toNat == 10 else false) = bif byteAt s a == 13 then (bif decide (a + 1 < s.size) then byteAt s (a + 1) == 10 else false) else false := by
  rw [wsucc h (by omega), Int.toNat_natCast, Int.toNat_natCast]
  cases byteAt s a == 13 with
  | false => rfl
  | true =>
    show (bif decide (((a + 1 : Nat) : Int) < s.size) then _ else _) = bif decide (a + 1 < s.size) then _ else _
    rw [show decide (((a + 1 : Nat) : Int) < (s.size : Int)) = decide (a + 1 < s.size) by rw [Bool.eq_iff_iff, decide_eq_true_eq, decide_eq_true_eq]; omega]
attribute [local irreducible] byteAt endX
set_option maxRecDepth 20000 in
theorem ends85_D (s : ByteArray) (a : Nat) (hs : s.size ≤ 1099511627776) : DPure Tryz.prog 85 [strV s, int1 a] (int1 (endX s a)) := by
  refine DFun.body Tryz.func85 rfl (by kernel_rfl) ?_
  repeat' (first | with_reducible rfl | ((conv => whnf); first | refine And.intro ?_ ?_ | (intro h; first | with_reducible exact tf_no h | with_reducible exact ft_no h | exact Bool.noConfusion h | with_reducible exact h | (have ht : true = true := h; clear ht h) | skip) | ((with_reducible refine DWl.mark ?_); repeat' (first | refine DWl.cons ?_ ?_ | exact DWl.nil | exact DW.same _ rfl | exact DW.ref _ _ _ rfl | exact DW.arr _ _ _ rfl | exact DW.sub _ _ _ _ rfl | exact DW.nilLst _ | refine DW.aggl ?_ | refine DW.tupl ?_ | refine DW.clol ?_ ?_ | refine DW.int ?_ | refine DW.bool ?_ | refine DW.str ?_)) | ((with_reducible refine ECall.mark ?_); first | refine ECall.only ?_ (fun h => nomatch h) | refine ECall.only ?_ ?_) | ((with_reducible refine Drawn.mark ?_); first | refine Drawn.quiet (by kernel_rfl) ?_) | refine dcell_ok rfl ?_ | refine AppC.new ?_))
  all_goals first | (with_reducible refine enters_mark ?_; kernel_rfl) | (with_reducible refine boolT_mark ?_; kernel_rfl) | rfl | trivial | assumption | exact Nat.le_of_ble_eq_true rfl | (show entersB _ _ = true; kernel_rfl) | exact DW.same _ rfl | exact DW.ref _ _ _ rfl | exact DW.arr _ _ _ rfl | refine DW.int ?_ | refine dvb ?_ | refine dvi ?_ | exact OW.cells rfl rfl (DWl.same rfl) | exact Nat.zero_le _ | omega | skip
  all_goals repeat' (first | refine OW.cells rfl rfl ?_ | exact DW.nilArr _ rfl | refine DWl.cons ?_ ?_ | exact DWl.nil | exact DW.same _ rfl | exact DW.ref _ _ _ rfl | exact DW.arr _ _ _ rfl | exact DW.sub _ _ _ _ rfl | exact DW.nilLst _ | refine DW.aggl ?_ | refine DW.tupl ?_ | refine DW.clol ?_ ?_)
  all_goals try ((conv => whnf); with_reducible first | refine Round.mark ?_ | refine Tells.mark ?_ | refine Retold.mark ?_)
  all_goals try first | (show (_ : Bool) = _; simp_all; done) | (show (_ : Int) < _; simp at *; omega) | (show (_ : Int) ≤ _; simp at *; omega) | (show (_ : Nat) < _; simp at *; omega) | (show (_ : Nat) ≤ _; simp at *; omega)
  · exact (endX_ge (ends_ge h)).symm
  · rename_i h0
    have hlt := ends_lt h0
    rw [Int.toNat_natCast] at h
    rw [endX_lt hlt, endR_lt hlt, h]; rfl
  · rename_i h0 h1
    have hlt := ends_lt h0
    rw [wrapI (by omega) (by omega)]; omega
  · rename_i h0 h1
    have hlt := ends_lt h0
    rw [Int.toNat_natCast] at h1
    rw [ends_nx s hlt hs] at h
    rw [endX_lt hlt, endR_lt hlt, h1, h]; rfl
  · rename_i h0 h1
    have hlt := ends_lt h0
    rw [Int.toNat_natCast] at h1
    rw [ends_nx s hlt hs] at h
    rw [endX_lt hlt, endR_lt hlt, h1, h]; rfl
end Go.Proofs.YtlchjjchgebfiaaGreatDoor

/- Read: the document's row, state by state. -/
namespace Go.Proofs.YtlchjjchgebfiaaGreatDoor
open Go.RowKit Go.Dl
attribute [local irreducible] Tri SCall TSem ECall Drawn DFun QSem PSem PCall GCall MCall Round Weak dloadE OW DWl Tells IntKind.wrap Retold ESem
def finX (i : RS) : RR := bif i.st == 2 then ⟨false, i.l, i.at_, i.line⟩ else ⟨true, i.l ++ [i.cell], i.at_ + 1, IntKind.i64.wrap (i.line + 1)⟩
def outX (i : RS) (r : RR) : RR := bif r.ok then r else ⟨false, i.l, r.at_, r.line⟩
def rowX (s : ByteArray) : Nat → RS → RR
  | 0, i => finX i
  | n + 1, i => match stepR s i with
    | .more j => rowX s n j
    | .stop r => outX i r
def rowY (s : ByteArray) (i : RS) : RR := rowX s (s.size - i.at_) i
def row0Y (s : ByteArray) (a : Nat) : RR := rowY s ⟨0, emB, [], a, 0⟩
theorem rowY_more {s : ByteArray} {i j : RS} (hlt : i.at_ < s.size) (h : stepR s i = .more j) (hat : j.at_ = i.at_ + 1) : rowY s j = rowY s i := by
  unfold rowY
  obtain ⟨n, hn⟩ : ∃ n, s.size - i.at_ = n + 1 := ⟨s.size - i.at_ - 1, by omega⟩
  rw [hn, rowX, h, hat, show s.size - (i.at_ + 1) = n by omega]
theorem rowY_stop {s : ByteArray} {i : RS} {r : RR} (hlt : i.at_ < s.size) (h : stepR s i = .stop r) : outX i r = rowY s i := by
  unfold rowY
  obtain ⟨n, hn⟩ : ∃ n, s.size - i.at_ = n + 1 := ⟨s.size - i.at_ - 1, by omega⟩
  rw [hn, rowX, h]
theorem rowY_fin {s : ByteArray} {i : RS} (hge : s.size ≤ i.at_) : finX i = rowY s i := by
  unfold rowY
  rw [show s.size - i.at_ = 0 by omega]; rfl
structure DXok (s : ByteArray) (a : Nat) (i : RS) : Prop where
  at_ : i.at_ ≤ s.size
  l : i.l.length ≤ i.at_
  cell : i.cell.size ≤ i.at_
  goes : rowY s i = row0Y s a
theorem dx_next {s : ByteArray} {a : Nat} {i j : RS} (hi : DXok s a i) (hlt : i.at_ < s.size) (h : stepR s i = .more j) (hat : j.at_ = i.at_ + 1) (hl : j.l.length ≤ i.l.length + 1) (hc : j.cell.size ≤ i.cell.size + 1) : DXok s a j :=
  ⟨by omega, by have := hi.l; omega, by have := hi.cell; omega, (rowY_more hlt h hat).trans hi.goes⟩
theorem dx_start {s : ByteArray} {a : Nat} (h : a ≤ s.size) : DXok s a ⟨0, emB, [], a, 0⟩ := ⟨h, Nat.zero_le _, Nat.zero_le _, rfl⟩
def nilV : DV := .v (.slice none 0 0)
def doSt (s : ByteArray) (i : RS) : St := ⟨0, tmOf [(0, strV s), (4, .ref 0 0), (5, bl false), (6, .ref 1 0)], .of [(0, ⟨90, 3, [nilV, int1 0, int1 0]⟩), (1, ⟨90, 3, [.arr 2 i.l.length, int1 i.at_, int1 i.line]⟩), (2, ⟨9, 1, rowS i.l⟩)] 3⟩
def diSt (s : ByteArray) (i : RS) : St := ⟨0, tmOf [(0, strV s), (4, .ref 0 0), (5, bl false), (6, .ref 1 0), (7, .arr 3 i.cell.size)], .of [(0, ⟨90, 3, [nilV, int1 0, int1 0]⟩), (1, ⟨90, 3, [.arr 2 i.l.length, int1 i.at_, int1 i.line]⟩), (2, ⟨9, 1, rowS i.l⟩), (3, ⟨5, 1, bytesD i.cell⟩)] 4⟩
structure DOok (s : ByteArray) (a : Nat) (i : RS) : Prop where
  ok : DXok s a i
  st : i.st = 0
  cell : i.cell = emB
structure DQok (s : ByteArray) (a b : Nat) (i : RS) : Prop where
  ok : DXok s a i
  st : i.st = 2
  from_ : b ≤ i.at_
theorem dq_lt {s : ByteArray} {k : Nat} (h : (bif decide ((k : Int) < (s.size : Int)) then byteAt s (k : Int).toNat == 34 else false) = true) : k < s.size := by
  rcases Nat.lt_or_ge k s.size with h1 | h1
  · exact h1
  · rw [decide_eq_false (by omega)] at h; cases h
theorem dq_byte {s : ByteArray} {k : Nat} (h : (bif decide ((k : Int) < (s.size : Int)) then byteAt s (k : Int).toNat == 34 else false) = true) : (byteAt s k == 34) = true := by
  rw [decide_eq_true (by have := dq_lt h; omega), Int.toNat_natCast] at h
  exact h
theorem byte_is {x y : Int} (h : (x == y) = true) (z : Int) : (x == z) = (y == z) := by rw [eq_of_beq h]
theorem quote_end {s : ByteArray} {k : Nat} (hlt : k < s.size) (h : (byteAt s k == 34) = true) : decide (0 < endR s k) = false := by
  rw [endR_lt hlt, byte_is h, byte_is h]; rfl
theorem dq_start {s : ByteArray} {a : Nat} {i : RS} (hi : DOok s a i) (h : (bif decide ((i.at_ : Int) < (s.size : Int)) then byteAt s (i.at_ : Int).toNat == 34 else false) = true) : DQok s a i.at_ ⟨2, emB, i.l, i.at_ + 1, i.line⟩ := by
  have hlt := dq_lt h
  have hb := dq_byte h
  have h1 : (i.st == 2) = false := by rw [hi.st]; rfl
  have h2 : (i.st == 3) = false := by rw [hi.st]; rfl
  have h3 : (i.st == 0) = true := by rw [hi.st]; rfl
  have hs := st_o (s := s) (i := i) h1 (quote_end hlt hb) (by rw [byte_is hb]; rfl) (by rw [h2]; rfl) (by rw [h3, hb]; rfl)
  rw [hi.cell] at hs
  exact ⟨dx_next hi.ok hlt hs rfl (Nat.le_succ _) (Nat.zero_le _), rfl, Nat.le_succ _⟩
structure DPok (s : ByteArray) (a b : Nat) (i : RS) : Prop where
  ok : DXok s a i
  st : i.st = 0 ∨ i.st = 1
  from_ : b ≤ i.at_
  first_ : i.st = 0 → i.at_ < s.size → (byteAt s i.at_ == 34) = false
theorem dp_start {s : ByteArray} {a : Nat} {i : RS} (hi : DOok s a i) (h : (bif decide ((i.at_ : Int) < (s.size : Int)) then byteAt s (i.at_ : Int).toNat == 34 else false) = false) : DPok s a i.at_ i :=
  ⟨hi.ok, .inl hi.st, Nat.le_refl _, fun _ hlt => by
    rw [decide_eq_true (by omega), Int.toNat_natCast] at h
    exact h⟩
theorem dp_em {s : ByteArray} {a : Nat} {i : RS} (hi : DOok s a i) : bytesD i.cell = [] := by rw [hi.cell]; rfl
theorem dp_em2 {s : ByteArray} {a : Nat} {i : RS} (hi : DOok s a i) : 0 = i.cell.size := by rw [hi.cell]; rfl
set_option maxRecDepth 20000 in
theorem dx_b2 {s : ByteArray} {a : Nat} {i : RS} (hi : DXok s a i) (hs : s.size ≤ 1099511627776) : (i.cell.size + 1) * Tryz.prog.types[5].bytes ≤ 140737488355328 := by
  have := hi.cell; have := hi.at_
  show (i.cell.size + 1) * 1 ≤ _
  omega
theorem dx_b3 {s : ByteArray} {a : Nat} {i : RS} (hi : DXok s a i) (hs : s.size ≤ 1099511627776) : i.cell.size + 1 ≤ maxLen := by
  have := hi.cell; have := hi.at_
  simp only [maxLen]; omega
set_option maxRecDepth 20000 in
theorem dx_r2 {s : ByteArray} {a : Nat} {i : RS} (hi : DXok s a i) (hs : s.size ≤ 1099511627776) : (i.l.length + 1) * Tryz.prog.types[9].bytes ≤ 140737488355328 := by
  have := hi.l; have := hi.at_
  show (i.l.length + 1) * 16 ≤ _
  omega
theorem dx_r3 {s : ByteArray} {a : Nat} {i : RS} (hi : DXok s a i) (hs : s.size ≤ 1099511627776) : i.l.length + 1 ≤ maxLen := by
  have := hi.l; have := hi.at_
  simp only [maxLen]; omega
theorem ends85_W (s : ByteArray) (a : Nat) (h : a < s.size) (hs : s.size ≤ 1099511627776) : DPure Tryz.prog 85 [strV s, int1 (IntKind.i64.wrap ((a : Int) + 1))] (int1 (endX s (a + 1))) := by
  rw [wsucc h (by omega)]
  exact ends85_D s _ hs
theorem endX_0 {s : ByteArray} {a : Nat} (h : (endX s a == 0) = true) : a < s.size := by
  rcases Nat.lt_or_ge a s.size with h1 | h1
  · exact h1
  · rw [endX_ge h1] at h; cases h
theorem endX_le (s : ByteArray) (a : Nat) : 0 ≤ endX s a ∧ endX s a ≤ 2 := by
  rcases Nat.lt_or_ge a s.size with h1 | h1
  · rw [endX_lt h1]; exact endR_le s a
  · rw [endX_ge h1]; decide
theorem endX_no {s : ByteArray} {a : Nat} (h : decide (0 < endX s a) = false) : (endX s a == 0) = true := by
  have := (endX_le s a).1
  have := of_decide_eq_false h
  rw [beq_iff_eq]; omega
theorem endR_no {s : ByteArray} {a : Nat} (h : (endX s a == 0) = true) : decide (0 < endR s a) = false := by
  rw [← endX_lt (endX_0 h), eq_of_beq h]; rfl
theorem dbl_1 {s : ByteArray} {j : RS} (hs : s.size ≤ 1099511627776) (hlt : j.at_ < s.size) (h : (bif bif byteAt s (j.at_ : Int).toNat == 34 then decide (IntKind.i64.wrap ((j.at_ : Int) + 1) < s.size) else false then byteAt s (IntKind.i64.wrap ((j.at_ : Int) + 1)).toNat == 34 else false) = true) : (byteAt s j.at_ == 34) = true ∧ j.at_ + 1 < s.size ∧ (byteAt s (j.at_ + 1) == 34) = true := by
  rw [wsucc hlt (by omega), Int.toNat_natCast, Int.toNat_natCast] at h
  cases h1 : byteAt s j.at_ == 34 with
  | false => rw [h1] at h; cases h
  | true =>
    rw [h1] at h
    cases h2 : decide (((j.at_ + 1 : Nat) : Int) < s.size) with
    | false => rw [h2] at h; cases h
    | true => rw [h2] at h; exact ⟨rfl, by have := of_decide_eq_true h2; omega, h⟩
theorem dbl_0 {s : ByteArray} {j : RS} (hs : s.size ≤ 1099511627776) (hlt : j.at_ < s.size) (h : (bif bif byteAt s (j.at_ : Int).toNat == 34 then decide (IntKind.i64.wrap ((j.at_ : Int) + 1) < s.size) else false then byteAt s (IntKind.i64.wrap ((j.at_ : Int) + 1)).toNat == 34 else false) = false) (h1 : (byteAt s (j.at_ : Int).toNat == 34) = true) (h2 : j.at_ + 1 < s.size) : (byteAt s (j.at_ + 1) == 34) = false := by
  rw [wsucc hlt (by omega), h1, Int.toNat_natCast, decide_eq_true (by omega)] at h
  exact h
theorem dbl_b {s : ByteArray} {j : RS} (h : ((bif byteAt s (j.at_ : Int).toNat == 34 then decide (IntKind.i64.wrap ((j.at_ : Int) + 1) < s.size) else false) == true) = true) : IntKind.i64.wrap ((j.at_ : Int) + 1) < s.size := by
  have h : (bif byteAt s (j.at_ : Int).toNat == 34 then decide (IntKind.i64.wrap ((j.at_ : Int) + 1) < s.size) else false) = true := eq_of_beq h
  cases h1 : byteAt s (j.at_ : Int).toNat == 34 with
  | false => rw [h1] at h; cases h
  | true => rw [h1] at h; exact of_decide_eq_true h
theorem w_nn {s : ByteArray} {j : Nat} (hlt : j < s.size) (hs : s.size ≤ 1099511627776) : 0 ≤ IntKind.i64.wrap ((j : Int) + 1) := by
  rw [wsucc hlt (by omega)]; omega
theorem w_lt {s : ByteArray} {j : Nat} (hlt : j < s.size) (hs : s.size ≤ 1099511627776) (h : ((endX s (j + 1) == 0) == true) = true) : IntKind.i64.wrap ((j : Int) + 1) < s.size := by
  have := endX_0 (eq_of_beq h)
  rw [wsucc hlt (by omega)]; omega
theorem byB_34 {s : ByteArray} {k : Nat} (h : (byteAt s k == 34) = true) : byB s k = ⟨#[34]⟩ := by
  unfold byB
  have : s.data.toList.getD k 0 = 34 := by
    have h : (((s.data.toList.getD k 0).toNat : Nat) : Int) = 34 := by have := eq_of_beq h; unfold byteAt at this; exact this
    exact UInt8.toNat_inj.1 (show (s.data.toList.getD k 0).toNat = 34 by omega)
  rw [this]
theorem nl_34 {s : ByteArray} {k : Nat} (h : (byteAt s k == 34) = true) (ln : Int) : nlI (byteAt s k) ln = ln := by
  rw [nlI, byte_is h]; rfl
theorem no_10 {s : ByteArray} {k : Nat} (h : (byteAt s k == 34) = true) (h1 : (byteAt s (k : Int).toNat == 10) = true) : False := by
  rw [Int.toNat_natCast, byte_is h] at h1; cases h1
/-- Behind a closing quote. -/
theorem dx_close {s : ByteArray} {a b : Nat} {j : RS} (hj : DQok s a b j) (hlt : j.at_ < s.size) (h : (byteAt s j.at_ == 34) = true) : DXok s a ⟨3, j.cell, j.l, j.at_ + 1, j.line⟩ := by
  have h2 := st_q1 (s := s) (i := j) (by rw [hj.st]; rfl) h
  rw [nl_34 h] at h2
  exact dx_next hj.ok hlt h2 rfl (Nat.le_succ _) (Nat.le_succ _)
theorem dq_double {s : ByteArray} {a b : Nat} {j : RS} (hj : DQok s a b j) (hlt : j.at_ < s.size) (h : (byteAt s j.at_ == 34) = true) (hlt1 : j.at_ + 1 < s.size) (h1 : (byteAt s (j.at_ + 1) == 34) = true) : DQok s a b ⟨2, j.cell ++ byB s j.at_, j.l, j.at_ + 1 + 1, j.line⟩ := by
  have h2 := dx_close hj hlt h
  have h3 := st_d (s := s) (i := ⟨3, j.cell, j.l, j.at_ + 1, j.line⟩) rfl (quote_end hlt1 h1) (by show (byteAt s (j.at_ + 1) == 44) = false; rw [byte_is h1]; rfl) (by show (byteAt s (j.at_ + 1) == 34) = true; exact h1)
  rw [byB_34 h, ← byB_34 h1]
  exact ⟨dx_next h2 hlt1 h3 rfl (Nat.le_succ _) (Nat.le_of_eq (size_push s j.cell (j.at_ + 1)).symm), rfl, by have := hj.from_; show b ≤ j.at_ + 1 + 1; omega⟩
theorem dq_plain {s : ByteArray} {a b : Nat} {j : RS} (hj : DQok s a b j) (hlt : j.at_ < s.size) (h : (byteAt s j.at_ == 34) = false) : DQok s a b ⟨2, j.cell ++ byB s j.at_, j.l, j.at_ + 1, nlI (byteAt s j.at_) j.line⟩ := by
  have h2 := st_q2 (s := s) (i := j) (by rw [hj.st]; rfl) h
  exact ⟨dx_next hj.ok hlt h2 rfl (Nat.le_succ _) (Nat.le_of_eq (size_push s j.cell j.at_).symm), rfl, by have := hj.from_; show b ≤ j.at_ + 1; omega⟩
theorem dq_fin {s : ByteArray} {a b : Nat} {j : RS} (hj : DQok s a b j) (h : s.size ≤ j.at_) : row0Y s a = ⟨false, j.l, j.at_, j.line⟩ := by
  rw [← hj.ok.goes, ← rowY_fin h, finX, hj.st]; rfl
theorem dx_bad {s : ByteArray} {a : Nat} {k : RS} (hk : DXok s a k) (hst : k.st = 3) (h : (endX s k.at_ == 0) = true) (h44 : (byteAt s k.at_ == 44) = false) (h34 : (byteAt s k.at_ == 34) = false) : row0Y s a = ⟨false, k.l, k.at_, k.line⟩ := by
  have h2 := st_b (s := s) (i := k) (by rw [hst]; rfl) (endR_no h) h44 (by rw [hst, h34]; rfl) (by rw [hst]; rfl) (by rw [hst]; rfl)
  rw [← hk.goes, ← rowY_stop (endX_0 h) h2]; rfl
theorem dx_end {s : ByteArray} {a : Nat} {k : RS} (hk : DXok s a k) (hst : (k.st == 2) = false) (h : decide (0 < endX s k.at_) = true) : row0Y s a = ⟨true, k.l ++ [k.cell], k.at_ + (endX s k.at_).toNat, IntKind.i64.wrap (k.line + 1)⟩ := by
  rw [← hk.goes]
  rcases Nat.lt_or_ge k.at_ s.size with h1 | h1
  · rw [endX_lt h1] at h ⊢
    rw [← rowY_stop h1 (st_e hst h)]; rfl
  · rw [endX_ge h1, ← rowY_fin h1, finX, hst]; rfl
theorem dx_comma {s : ByteArray} {a : Nat} {k : RS} (hk : DXok s a k) (hst : (k.st == 2) = false) (h : decide (0 < endX s k.at_) = false) (h44 : (byteAt s k.at_ == 44) = true) : DOok s a ⟨0, emB, k.l ++ [k.cell], k.at_ + 1, k.line⟩ :=
  ⟨dx_next hk (endX_0 (endX_no h)) (st_c hst (endR_no (endX_no h)) h44) rfl (by rw [List.length_append]; exact Nat.le_refl _) (Nat.zero_le _), rfl, rfl⟩
theorem c44 {s : ByteArray} {k k' : Nat} (hk : k' = k) (h : (bif endX s k == 0 then byteAt s k' != 44 else false) = false) (h1 : decide (0 < endX s k) = false) : (byteAt s k == 44) = true := by
  subst hk
  rw [endX_no h1] at h
  have h : (byteAt s k' != 44) = false := h
  simpa using h
theorem n44 {s : ByteArray} {k k' : Nat} (hk : k' = k) (h : (bif endX s k == 0 then byteAt s k' != 44 else false) = true) : (endX s k == 0) = true ∧ (byteAt s k == 44) = false := by
  subst hk
  cases h1 : endX s k' == 0 with
  | false => rw [h1] at h; cases h
  | true =>
    rw [h1] at h
    have h : (byteAt s k' != 44) = true := h
    exact ⟨rfl, by simpa using h⟩
theorem dp_bad {s : ByteArray} {a b : Nat} {j : RS} (hj : DPok s a b j) (h : (endX s j.at_ == 0) = true) (h44 : (byteAt s j.at_ == 44) = false) (h34 : (byteAt s j.at_ == 34) = true) : row0Y s a = ⟨false, j.l, j.at_, j.line⟩ := by
  have hst : j.st = 1 := by
    rcases hj.st with h1 | h1
    · have := hj.first_ h1 (endX_0 h); rw [h34] at this; cases this
    · exact h1
  have h2 := st_b (s := s) (i := j) (by rw [hst]; rfl) (endR_no h) h44 (by rw [hst]; rfl) (by rw [hst]; rfl) (by rw [hst, h34]; rfl)
  rw [← hj.ok.goes, ← rowY_stop (endX_0 h) h2]; rfl
theorem dp_2 {s : ByteArray} {a b : Nat} {j : RS} (hj : DPok s a b j) : (j.st == 2) = false := by
  rcases hj.st with h1 | h1 <;> rw [h1] <;> rfl
theorem dp_next {s : ByteArray} {a b : Nat} {j : RS} (hj : DPok s a b j) (h : (endX s j.at_ == 0) = true) (h44 : (byteAt s j.at_ == 44) = false) (h34 : (byteAt s j.at_ == 34) = false) : DPok s a b ⟨1, j.cell ++ byB s j.at_, j.l, j.at_ + 1, j.line⟩ := by
  have h3 : (j.st == 3) = false := by rcases hj.st with h1 | h1 <;> rw [h1] <;> rfl
  have h2 := st_p (s := s) (i := j) (dp_2 hj) (endR_no h) h44 (by rw [h3]; rfl) (by rw [h34]; cases j.st == 0 <;> rfl) (by rw [h3, h34]; rfl)
  exact ⟨dx_next hj.ok (endX_0 h) h2 rfl (Nat.le_succ _) (Nat.le_of_eq (size_push s j.cell j.at_).symm), .inr rfl, by have := hj.from_; show b ≤ j.at_ + 1; omega, fun e => by cases e⟩
theorem x_at {s : ByteArray} {k : Nat} (h : k ≤ s.size) (hs : s.size ≤ 1099511627776) : IntKind.i64.wrap ((k : Int) + endX s k) = ((k + (endX s k).toNat : Nat) : Int) := by
  obtain ⟨h1, h2⟩ := endX_le s k
  rw [wrapI (by omega) (by omega)]; omega
theorem x_at1 {s : ByteArray} {k : Nat} (h : k < s.size) (hs : s.size ≤ 1099511627776) : IntKind.i64.wrap (IntKind.i64.wrap ((k : Int) + 1) + endX s (k + 1)) = ((k + 1 + (endX s (k + 1)).toNat : Nat) : Int) := by
  rw [wsucc h (by omega)]; exact x_at h hs
theorem w_2 {s : ByteArray} {k : Nat} (h : k < s.size) (hs : s.size ≤ 1099511627776) : IntKind.i64.wrap (IntKind.i64.wrap ((k : Int) + 1) + 1) = ((k + 1 + 1 : Nat) : Int) := by
  rw [wsucc h (by omega), wsucc (n := s.size + 1) (by omega) (by omega)]
theorem w_to {s : ByteArray} {k : Nat} (h : k < s.size) (hs : s.size ≤ 1099511627776) : (IntKind.i64.wrap ((k : Int) + 1)).toNat = k + 1 := by
  rw [wsucc h (by omega), Int.toNat_natCast]
theorem rowS_f (l : List ByteArray) : rowS l = (l.map strD).flatten := rfl
def cutD (r : RR) : DV := .agg [strs r.row, int1 r.at_, int1 r.line]
theorem tl_bad {s : ByteArray} {a : Nat} {r : RR} (h : row0Y s a = r) : DV.tup [cutD (row0Y s a), bl (row0Y s a).ok] = .tup [cutD r, bl r.ok] := by rw [h]
attribute [local irreducible] rowS bytesD rowY row0Y endR endX stepR nlI byB
set_option maxRecDepth 20000 in
set_option maxHeartbeats 4000000 in
set_option pp.maxSteps 800 in
theorem row50_D (s : ByteArray) (hs : s.size ≤ 1099511627776) (a : Nat) (ha : a ≤ s.size) : DPure Tryz.prog 50 [strV s, int1 a] (.tup [cutD (row0Y s a), bl (row0Y s a).ok]) := by
  refine DFun.data (DFun.body Tryz.func50 rfl (by kernel_rfl) ?_)
  repeat' (first | with_reducible rfl | ((conv => whnf); first | refine And.intro ?_ ?_ | (intro h; first | with_reducible exact tf_no h | with_reducible exact ft_no h | exact Bool.noConfusion h | with_reducible exact h | (have ht : true = true := h; clear ht h) | skip) | ((with_reducible refine DWl.mark ?_); repeat' (first | refine DWl.cons ?_ ?_ | exact DWl.nil | exact DW.same _ rfl | exact DW.ref _ _ _ rfl | exact DW.arr _ _ _ rfl | exact DW.sub _ _ _ _ rfl | exact DW.nilLst _ | refine DW.aggl ?_ | refine DW.tupl ?_ | refine DW.clol ?_ ?_ | refine DW.int ?_ | refine DW.bool ?_ | refine DW.str ?_)) | ((with_reducible refine ECall.mark ?_); first | refine ECall.only ?_ (fun h => nomatch h) | refine ECall.only ?_ ?_) | ((with_reducible refine Drawn.mark ?_); first | refine Drawn.quiet (by kernel_rfl) ?_) | refine dcell_ok rfl ?_ | refine AppC.new ?_))
  all_goals first | (with_reducible refine enters_mark ?_; kernel_rfl) | (with_reducible refine boolT_mark ?_; kernel_rfl) | rfl | trivial | assumption | exact Nat.le_of_ble_eq_true rfl | (show entersB _ _ = true; kernel_rfl) | exact DW.same _ rfl | exact DW.ref _ _ _ rfl | exact DW.arr _ _ _ rfl | refine DW.int ?_ | refine dvb ?_ | refine dvi ?_ | exact OW.cells rfl rfl (DWl.same rfl) | exact Nat.zero_le _ | omega | skip
  all_goals repeat' (first | refine OW.cells rfl rfl ?_ | exact DW.nilArr _ rfl | refine DWl.cons ?_ ?_ | exact DWl.nil | exact DW.same _ rfl | exact DW.ref _ _ _ rfl | exact DW.arr _ _ _ rfl | exact DW.sub _ _ _ _ rfl | exact DW.nilLst _ | refine DW.aggl ?_ | refine DW.tupl ?_ | refine DW.clol ?_ ?_)
  all_goals try ((conv => whnf); with_reducible first | refine Round.mark ?_ | refine Tells.mark ?_ | refine Retold.mark ?_)
  all_goals try first | (show (_ : Bool) = _; simp_all; done) | (show (_ : Int) < _; simp at *; omega) | (show (_ : Int) ≤ _; simp at *; omega) | (show (_ : Nat) < _; simp at *; omega) | (show (_ : Nat) ≤ _; simp at *; omega)
  conv => whnf
  refine Tri.loop (doSt s) (DOok s a) (fun i => s.size - i.at_) ⟨0, emB, [], a, 0⟩ (by kernel_rfl) (Weak.list [(0, some 0), (1, some 1), (2, none)] [] (by kernel_rfl) ?_ ?_) ⟨dx_start ha, rfl, rfl⟩ ?_
  · repeat' (first | exact row0 | exact DW.nilArr _ rfl | exact DW.same _ rfl | exact DW.ref _ _ _ rfl | exact DW.arr _ _ _ rfl | exact OW.cells rfl rfl (DWl.same rfl) | refine OW.cells rfl rfl ?_ | refine DWl.cons ?_ ?_ | exact DWl.nil | exact DW.nilArr _ rfl | exact DW.nilLst _ | refine DW.clol ?_ ?_ | refine DW.aggl ?_ | refine DW.tupl ?_ | refine DW.int ?_ | refine DW.bool ?_ | refine DW.str ?_ | refine DW.arrE rfl ?_ | ((conv => whnf); first | refine And.intro ?_ ?_ | trivial))
  · repeat' (first | exact row0 | exact DW.nilArr _ rfl | exact DW.same _ rfl | exact DW.ref _ _ _ rfl | exact DW.arr _ _ _ rfl | exact OW.cells rfl rfl (DWl.same rfl) | refine OW.cells rfl rfl ?_ | refine DWl.cons ?_ ?_ | exact DWl.nil | exact DW.nilArr _ rfl | exact DW.nilLst _ | refine DW.clol ?_ ?_ | refine DW.aggl ?_ | refine DW.tupl ?_ | refine DW.int ?_ | refine DW.bool ?_ | refine DW.str ?_ | refine DW.arrE rfl ?_ | ((conv => whnf); first | refine And.intro ?_ ?_ | trivial))
  intro i hi
  show dcode _ _ _ _ (doSt s i) _
  repeat' (first | with_reducible rfl | ((conv => whnf); first | refine And.intro ?_ ?_ | (intro h; first | with_reducible exact tf_no h | with_reducible exact ft_no h | exact Bool.noConfusion h | with_reducible exact h | (have ht : true = true := h; clear ht h) | skip) | ((with_reducible refine DWl.mark ?_); repeat' (first | refine DWl.cons ?_ ?_ | exact DWl.nil | exact DW.same _ rfl | exact DW.ref _ _ _ rfl | exact DW.arr _ _ _ rfl | exact DW.sub _ _ _ _ rfl | exact DW.nilLst _ | refine DW.aggl ?_ | refine DW.tupl ?_ | refine DW.clol ?_ ?_ | refine DW.int ?_ | refine DW.bool ?_ | refine DW.str ?_)) | ((with_reducible refine SCall.mark ?_); first | refine SCall.data (ends85_D _ _ hs) rfl rfl ?_ | refine SCall.scal (ends85_D _ _ hs) rfl rfl ?_) | ((with_reducible refine PCall.mark ?_); first | refine PCall.mk (ends85_D _ _ hs) rfl rfl ?_) | ((with_reducible refine GCall.mark ?_); first | refine GCall.data (fun _ => ends85_D _ _ hs) rfl rfl ?_ | refine GCall.scal (fun _ => ends85_D _ _ hs) rfl rfl ?_) | ((with_reducible refine MCall.mark ?_); first | refine MCall.data (fun _ => ends85_D _ _ hs) rfl rfl ?_ | refine MCall.plain (PCall.mk (ends85_D _ _ hs) rfl rfl ?_)) | ((with_reducible refine ECall.mark ?_); first | refine ECall.only ?_ (fun h => nomatch h) | refine ECall.only ?_ ?_) | ((with_reducible refine Drawn.mark ?_); first | refine Drawn.quiet (by kernel_rfl) ?_) | refine dcell_ok rfl ?_ | refine AppC.new ?_))
  all_goals try ((conv => whnf); with_reducible refine Round.mark ?_)
  all_goals try first | ((with_reducible show Option.isSome (slElem _ _) = true); kernel_rfl) | ((with_reducible show slElem _ _ = some _); kernel_rfl) | ((with_reducible refine enters_mark ?_); kernel_rfl) | (with_reducible assumption) | ((with_reducible show List.all _ DV.one = true); rfl) | ((with_reducible show (_ : Nat) = _); rfl) | ((with_reducible show (_ == true) = true); simpa using h) | ((with_reducible show (_ : Nat) ≤ _); exact Nat.le_of_ble_eq_true rfl) | ((with_reducible show (_ : Int) ≤ _); first | omega | decide) | ((with_reducible show (_ : Int) < _); first | omega | decide) | ((with_reducible show (_ : Nat) < _); omega) | ((with_reducible show (_ : Nat) ≤ _); omega)
  all_goals try (first | (rfl; done) | (exact of_decide_eq_true (by simpa using h); done))
  · conv => whnf
    refine Tri.loop (diSt s) (DQok s a i.at_) (fun i => s.size - i.at_) ⟨2, emB, i.l, i.at_ + 1, i.line⟩ (by kernel_rfl) (Weak.list [(0, some 0), (1, some 1), (2, some 2), (3, none)] [] (by kernel_rfl) ?_ ?_) (dq_start hi h) ?_
    · repeat' (first | exact em0 | exact DW.nilArr _ rfl | exact DWl.eq rfl (rowS_all _) | exact wsucc (dq_lt h) (by omega) | exact DW.same _ rfl | exact DW.ref _ _ _ rfl | exact DW.arr _ _ _ rfl | exact OW.cells rfl rfl (DWl.same rfl) | refine OW.cells rfl rfl ?_ | refine DWl.cons ?_ ?_ | exact DWl.nil | exact DW.nilArr _ rfl | exact DW.nilLst _ | refine DW.clol ?_ ?_ | refine DW.aggl ?_ | refine DW.tupl ?_ | refine DW.int ?_ | refine DW.bool ?_ | refine DW.str ?_ | refine DW.arrE rfl ?_ | ((conv => whnf); first | refine And.intro ?_ ?_ | trivial))
    · repeat' (first | exact em0 | exact DW.nilArr _ rfl | exact DWl.eq rfl (rowS_all _) | exact wsucc (dq_lt h) (by omega) | exact DW.same _ rfl | exact DW.ref _ _ _ rfl | exact DW.arr _ _ _ rfl | exact OW.cells rfl rfl (DWl.same rfl) | refine OW.cells rfl rfl ?_ | refine DWl.cons ?_ ?_ | exact DWl.nil | exact DW.nilArr _ rfl | exact DW.nilLst _ | refine DW.clol ?_ ?_ | refine DW.aggl ?_ | refine DW.tupl ?_ | refine DW.int ?_ | refine DW.bool ?_ | refine DW.str ?_ | refine DW.arrE rfl ?_ | ((conv => whnf); first | refine And.intro ?_ ?_ | trivial))
    clear h
    intro j hj
    show dcode _ _ _ _ (diSt s j) _
    repeat' (first | with_reducible rfl | ((conv => whnf); first | refine And.intro ?_ ?_ | (intro h; first | with_reducible exact tf_no h | with_reducible exact ft_no h | exact Bool.noConfusion h | with_reducible exact h | (have ht : true = true := h; clear ht h) | skip) | ((with_reducible refine DWl.mark ?_); repeat' (first | refine DWl.cons ?_ ?_ | exact DWl.nil | exact DW.same _ rfl | exact DW.ref _ _ _ rfl | exact DW.arr _ _ _ rfl | exact DW.sub _ _ _ _ rfl | exact DW.nilLst _ | refine DW.aggl ?_ | refine DW.tupl ?_ | refine DW.clol ?_ ?_ | refine DW.int ?_ | refine DW.bool ?_ | refine DW.str ?_)) | ((with_reducible refine SCall.mark ?_); first | refine SCall.data (ends85_D _ _ hs) rfl rfl ?_ | refine SCall.scal (ends85_D _ _ hs) rfl rfl ?_ | refine SCall.data (ends85_W _ _ ?_ hs) rfl rfl ?_ | refine SCall.scal (ends85_W _ _ ?_ hs) rfl rfl ?_) | ((with_reducible refine PCall.mark ?_); first | refine PCall.mk (ends85_D _ _ hs) rfl rfl ?_ | refine PCall.mk (ends85_W _ _ ?_ hs) rfl rfl ?_) | ((with_reducible refine GCall.mark ?_); first | refine GCall.data (fun _ => ends85_D _ _ hs) rfl rfl ?_ | refine GCall.scal (fun _ => ends85_D _ _ hs) rfl rfl ?_ | refine GCall.data (fun _ => ends85_W _ _ ?_ hs) rfl rfl ?_ | refine GCall.scal (fun _ => ends85_W _ _ ?_ hs) rfl rfl ?_) | ((with_reducible refine MCall.mark ?_); first | refine MCall.data (fun _ => ends85_D _ _ hs) rfl rfl ?_ | refine MCall.plain (PCall.mk (ends85_D _ _ hs) rfl rfl ?_) | refine MCall.data (fun _ => ends85_W _ _ ?_ hs) rfl rfl ?_ | refine MCall.plain (PCall.mk (ends85_W _ _ ?_ hs) rfl rfl ?_)) | ((with_reducible refine ex_mark ?_); first | refine dq_bstr (j.cell) Tryz.underlying63 Tryz.underlying5 Tryz.underlying9 rfl rfl rfl ?_ ?_) | ((with_reducible refine ECall.mark ?_); first | refine ECall.only ?_ (fun h => nomatch h) | refine ECall.only ?_ ?_) | ((with_reducible refine Drawn.mark ?_); first | refine Drawn.quiet (by kernel_rfl) ?_) | refine dcell_ok rfl ?_ | refine AppC.new ?_))
    all_goals try ((conv => whnf); with_reducible refine Round.mark ?_)
    all_goals try first | ((with_reducible show Option.isSome (slElem _ _) = true); kernel_rfl) | ((with_reducible show slElem _ _ = some _); kernel_rfl) | ((with_reducible refine enters_mark ?_); kernel_rfl) | (with_reducible assumption) | ((with_reducible show List.all _ DV.one = true); rfl) | ((with_reducible show (_ : Nat) = _); rfl) | ((with_reducible show (_ == true) = true); simpa using h) | ((with_reducible show (_ : Nat) ≤ _); exact Nat.le_of_ble_eq_true rfl) | ((with_reducible show (_ : Int) ≤ _); first | omega | decide) | ((with_reducible show (_ : Int) < _); first | omega | decide) | ((with_reducible show (_ : Nat) < _); omega) | ((with_reducible show (_ : Nat) ≤ _); omega)
    all_goals try (first | (rfl; done) | (exact of_decide_eq_true (by simpa using h); done) | (exact ln_b1 _; done) | (exact dx_b2 hj.ok hs; done) | (exact dx_b3 hj.ok hs; done) | (exact rs_r1 _; done) | (exact dx_r2 hj.ok hs; done) | (exact dx_r3 hj.ok hs; done) | (exact bytes_take _; done) | (exact of_decide_eq_true (by assumption); done))
    · have hge := ends_ge h
      conv => whnf
      refine Tells.of (r1 := .tup [cutD ⟨false, j.l, j.at_, j.line⟩, bl false]) (tl_bad (dq_fin hj hge)) (Tells.mk (DW.tupl (DWl.cons (DW.aggl (DWl.cons (DW.pubM rfl rfl rfl rfl strRow (rowS_f _)) (DWl.cons (DW.int rfl) (DWl.cons (DW.same _ rfl) DWl.nil)))) (DWl.cons (DW.same _ rfl) DWl.nil))))
    · exact w_nn (ends_lt (by assumption)) hs
    · exact dbl_b h
    · rename_i h2 h3
      have hlt := ends_lt h2
      exact (no_10 (dbl_1 hs hlt h3).1 h).elim
    · rename_i h2 h3
      have hlt := ends_lt h2
      have d2 := (dbl_1 hs hlt h3).2.1
      have hn := dq_double hj hlt (dbl_1 hs hlt h3).1 d2 (dbl_1 hs hlt h3).2.2
      refine Round.go (fun _ => _) hn (by show s.size - (j.at_ + 1 + 1) < s.size - j.at_; omega) (Weak.list [(0, some 0), (1, some 1), (2, some 2), (3, some 5)] [] (by kernel_rfl) ?_ ?_)
      · repeat' (first | exact w_2 hlt hs | exact DWl.eq (bytes_push s j.cell j.at_) (bytesD_all _) | exact size_push s j.cell j.at_ | exact DWl.eq rfl (rowS_all _) | exact DWl.eq rfl (bytesD_all _) | exact DW.same _ rfl | exact DW.ref _ _ _ rfl | exact DW.arr _ _ _ rfl | exact OW.cells rfl rfl (DWl.same rfl) | refine OW.cells rfl rfl ?_ | refine DWl.cons ?_ ?_ | exact DWl.nil | exact DW.nilArr _ rfl | exact DW.nilLst _ | refine DW.clol ?_ ?_ | refine DW.aggl ?_ | refine DW.tupl ?_ | refine DW.int ?_ | refine DW.bool ?_ | refine DW.str ?_ | refine DW.arrE rfl ?_ | ((conv => whnf); first | refine And.intro ?_ ?_ | trivial))
      · repeat' (first | exact w_2 hlt hs | exact DWl.eq (bytes_push s j.cell j.at_) (bytesD_all _) | exact size_push s j.cell j.at_ | exact DWl.eq rfl (rowS_all _) | exact DWl.eq rfl (bytesD_all _) | exact DW.same _ rfl | exact DW.ref _ _ _ rfl | exact DW.arr _ _ _ rfl | exact OW.cells rfl rfl (DWl.same rfl) | refine OW.cells rfl rfl ?_ | refine DWl.cons ?_ ?_ | exact DWl.nil | exact DW.nilArr _ rfl | exact DW.nilLst _ | refine DW.clol ?_ ?_ | refine DW.aggl ?_ | refine DW.tupl ?_ | refine DW.int ?_ | refine DW.bool ?_ | refine DW.str ?_ | refine DW.arrE rfl ?_ | ((conv => whnf); first | refine And.intro ?_ ?_ | trivial))
    · exact ends_lt (by assumption)
    · exact w_nn (ends_lt (by assumption)) hs
    · exact w_lt (ends_lt (by assumption)) hs h
    · rename_i h2 h3 h4
      have hlt := ends_lt h2
      have c1 := (n44 (w_to hlt hs) h).1
      have c2 := (n44 (w_to hlt hs) h).2
      have h5 : (byteAt s j.at_ == 34) = true := h4
      have hk := dx_close hj hlt h5
      have hb := dx_bad hk rfl c1 c2 (dbl_0 hs hlt h3 h4 (endX_0 c1))
      conv => whnf
      refine Tells.of (r1 := .tup [cutD ⟨false, j.l, j.at_ + 1, j.line⟩, bl false]) (tl_bad hb) (Tells.mk (DW.tupl (DWl.cons (DW.aggl (DWl.cons (DW.pubM rfl rfl rfl rfl strRow (rowS_f _)) (DWl.cons (DW.int (wsucc hlt (by omega))) (DWl.cons (DW.same _ rfl) DWl.nil)))) (DWl.cons (DW.same _ rfl) DWl.nil))))
    · exact ends_lt (by assumption)
    · rename_i h2 h3 h4 h5
      have hlt := ends_lt h2
      have hk := dx_close hj hlt h4
      have hb := dx_end hk rfl h
      conv => whnf
      refine Tells.of (r1 := .tup [cutD ⟨true, j.l ++ [j.cell], j.at_ + 1 + (endX s (j.at_ + 1)).toNat, IntKind.i64.wrap (j.line + 1)⟩, bl true]) (tl_bad hb) (Tells.mk (DW.tupl (DWl.cons (DW.aggl (DWl.cons (DW.pubM rfl (rl_push j).symm rfl rfl strRow ((rs_push j).trans (rowS_f _))) (DWl.cons (DW.int (x_at1 hlt hs)) (DWl.cons (DW.same _ rfl) DWl.nil)))) (DWl.cons (DW.same _ rfl) DWl.nil))))
    · rename_i h2 h3 h4 h5
      have hlt := ends_lt h2
      have hk := dx_close hj hlt h4
      have hlt1 := endX_0 (endX_no h)
      have hn := dx_comma hk rfl h (c44 (w_to hlt hs) h5 h)
      refine Round.go (fun _ => _) hn (by have := hj.from_; show s.size - (j.at_ + 1 + 1) < s.size - i.at_; omega) (Weak.list [(0, some 0), (1, some 1), (2, some 5)] [] (by kernel_rfl) ?_ ?_)
      · repeat' (first | exact w_2 hlt hs | exact rl_push j | exact DWl.eq (rs_push j) (rowS_all _) | exact DW.same _ rfl | exact DW.ref _ _ _ rfl | exact DW.arr _ _ _ rfl | exact OW.cells rfl rfl (DWl.same rfl) | refine OW.cells rfl rfl ?_ | refine DWl.cons ?_ ?_ | exact DWl.nil | exact DW.nilArr _ rfl | exact DW.nilLst _ | refine DW.clol ?_ ?_ | refine DW.aggl ?_ | refine DW.tupl ?_ | refine DW.int ?_ | refine DW.bool ?_ | refine DW.str ?_ | refine DW.arrE rfl ?_ | ((conv => whnf); first | refine And.intro ?_ ?_ | trivial))
      · repeat' (first | exact w_2 hlt hs | exact rl_push j | exact DWl.eq (rs_push j) (rowS_all _) | exact DW.same _ rfl | exact DW.ref _ _ _ rfl | exact DW.arr _ _ _ rfl | exact OW.cells rfl rfl (DWl.same rfl) | refine OW.cells rfl rfl ?_ | refine DWl.cons ?_ ?_ | exact DWl.nil | exact DW.nilArr _ rfl | exact DW.nilLst _ | refine DW.clol ?_ ?_ | refine DW.aggl ?_ | refine DW.tupl ?_ | refine DW.int ?_ | refine DW.bool ?_ | refine DW.str ?_ | refine DW.arrE rfl ?_ | ((conv => whnf); first | refine And.intro ?_ ?_ | trivial))
    · rename_i h2 h3 h4
      have hlt := ends_lt h2
      have hn := dq_plain hj hlt h4
      refine Round.go (fun _ => _) hn (by show s.size - (j.at_ + 1) < s.size - j.at_; omega) (Weak.list [(0, some 0), (1, some 1), (2, some 2), (3, some 5)] [] (by kernel_rfl) ?_ ?_)
      · repeat' (first | exact wsucc hlt (by omega) | exact nl_t h | exact DWl.eq (bytes_push s j.cell j.at_) (bytesD_all _) | exact size_push s j.cell j.at_ | exact DWl.eq rfl (rowS_all _) | exact DWl.eq rfl (bytesD_all _) | exact DW.same _ rfl | exact DW.ref _ _ _ rfl | exact DW.arr _ _ _ rfl | exact OW.cells rfl rfl (DWl.same rfl) | refine OW.cells rfl rfl ?_ | refine DWl.cons ?_ ?_ | exact DWl.nil | exact DW.nilArr _ rfl | exact DW.nilLst _ | refine DW.clol ?_ ?_ | refine DW.aggl ?_ | refine DW.tupl ?_ | refine DW.int ?_ | refine DW.bool ?_ | refine DW.str ?_ | refine DW.arrE rfl ?_ | ((conv => whnf); first | refine And.intro ?_ ?_ | trivial))
      · repeat' (first | exact wsucc hlt (by omega) | exact nl_t h | exact DWl.eq (bytes_push s j.cell j.at_) (bytesD_all _) | exact size_push s j.cell j.at_ | exact DWl.eq rfl (rowS_all _) | exact DWl.eq rfl (bytesD_all _) | exact DW.same _ rfl | exact DW.ref _ _ _ rfl | exact DW.arr _ _ _ rfl | exact OW.cells rfl rfl (DWl.same rfl) | refine OW.cells rfl rfl ?_ | refine DWl.cons ?_ ?_ | exact DWl.nil | exact DW.nilArr _ rfl | exact DW.nilLst _ | refine DW.clol ?_ ?_ | refine DW.aggl ?_ | refine DW.tupl ?_ | refine DW.int ?_ | refine DW.bool ?_ | refine DW.str ?_ | refine DW.arrE rfl ?_ | ((conv => whnf); first | refine And.intro ?_ ?_ | trivial))
    · rename_i h2 h3 h4
      have hlt := ends_lt h2
      have hn := dq_plain hj hlt h4
      refine Round.go (fun _ => _) hn (by show s.size - (j.at_ + 1) < s.size - j.at_; omega) (Weak.list [(0, some 0), (1, some 1), (2, some 2), (3, some 5)] [] (by kernel_rfl) ?_ ?_)
      · repeat' (first | exact wsucc hlt (by omega) | exact nl_f h | exact DWl.eq (bytes_push s j.cell j.at_) (bytesD_all _) | exact size_push s j.cell j.at_ | exact DWl.eq rfl (rowS_all _) | exact DWl.eq rfl (bytesD_all _) | exact DW.same _ rfl | exact DW.ref _ _ _ rfl | exact DW.arr _ _ _ rfl | exact OW.cells rfl rfl (DWl.same rfl) | refine OW.cells rfl rfl ?_ | refine DWl.cons ?_ ?_ | exact DWl.nil | exact DW.nilArr _ rfl | exact DW.nilLst _ | refine DW.clol ?_ ?_ | refine DW.aggl ?_ | refine DW.tupl ?_ | refine DW.int ?_ | refine DW.bool ?_ | refine DW.str ?_ | refine DW.arrE rfl ?_ | ((conv => whnf); first | refine And.intro ?_ ?_ | trivial))
      · repeat' (first | exact wsucc hlt (by omega) | exact nl_f h | exact DWl.eq (bytes_push s j.cell j.at_) (bytesD_all _) | exact size_push s j.cell j.at_ | exact DWl.eq rfl (rowS_all _) | exact DWl.eq rfl (bytesD_all _) | exact DW.same _ rfl | exact DW.ref _ _ _ rfl | exact DW.arr _ _ _ rfl | exact OW.cells rfl rfl (DWl.same rfl) | refine OW.cells rfl rfl ?_ | refine DWl.cons ?_ ?_ | exact DWl.nil | exact DW.nilArr _ rfl | exact DW.nilLst _ | refine DW.clol ?_ ?_ | refine DW.aggl ?_ | refine DW.tupl ?_ | refine DW.int ?_ | refine DW.bool ?_ | refine DW.str ?_ | refine DW.arrE rfl ?_ | ((conv => whnf); first | refine And.intro ?_ ?_ | trivial))
  · conv => whnf
    refine Tri.loop (diSt s) (DPok s a i.at_) (fun i => s.size - i.at_) i (by kernel_rfl) (Weak.list [(0, some 0), (1, some 1), (2, some 2), (3, none)] [] (by kernel_rfl) ?_ ?_) (dp_start hi h) ?_
    · repeat' (first | exact dp_em hi | exact DWl.eq rfl (rowS_all _) | exact (by rw [hi.cell]; exact DW.nilArr _ rfl) | exact DW.same _ rfl | exact DW.ref _ _ _ rfl | exact DW.arr _ _ _ rfl | exact OW.cells rfl rfl (DWl.same rfl) | refine OW.cells rfl rfl ?_ | refine DWl.cons ?_ ?_ | exact DWl.nil | exact DW.nilArr _ rfl | exact DW.nilLst _ | refine DW.clol ?_ ?_ | refine DW.aggl ?_ | refine DW.tupl ?_ | refine DW.int ?_ | refine DW.bool ?_ | refine DW.str ?_ | refine DW.arrE rfl ?_ | ((conv => whnf); first | refine And.intro ?_ ?_ | trivial))
    · repeat' (first | exact dp_em hi | exact DWl.eq rfl (rowS_all _) | exact (by rw [hi.cell]; exact DW.nilArr _ rfl) | exact DW.same _ rfl | exact DW.ref _ _ _ rfl | exact DW.arr _ _ _ rfl | exact OW.cells rfl rfl (DWl.same rfl) | refine OW.cells rfl rfl ?_ | refine DWl.cons ?_ ?_ | exact DWl.nil | exact DW.nilArr _ rfl | exact DW.nilLst _ | refine DW.clol ?_ ?_ | refine DW.aggl ?_ | refine DW.tupl ?_ | refine DW.int ?_ | refine DW.bool ?_ | refine DW.str ?_ | refine DW.arrE rfl ?_ | ((conv => whnf); first | refine And.intro ?_ ?_ | trivial))
    clear h
    intro j hj
    show dcode _ _ _ _ (diSt s j) _
    repeat' (first | with_reducible rfl | ((conv => whnf); first | refine And.intro ?_ ?_ | (intro h; first | with_reducible exact tf_no h | with_reducible exact ft_no h | exact Bool.noConfusion h | with_reducible exact h | (have ht : true = true := h; clear ht h) | skip) | ((with_reducible refine DWl.mark ?_); repeat' (first | refine DWl.cons ?_ ?_ | exact DWl.nil | exact DW.same _ rfl | exact DW.ref _ _ _ rfl | exact DW.arr _ _ _ rfl | exact DW.sub _ _ _ _ rfl | exact DW.nilLst _ | refine DW.aggl ?_ | refine DW.tupl ?_ | refine DW.clol ?_ ?_ | refine DW.int ?_ | refine DW.bool ?_ | refine DW.str ?_)) | ((with_reducible refine SCall.mark ?_); first | refine SCall.data (ends85_D _ _ hs) rfl rfl ?_ | refine SCall.scal (ends85_D _ _ hs) rfl rfl ?_ | refine SCall.data (ends85_W _ _ ?_ hs) rfl rfl ?_ | refine SCall.scal (ends85_W _ _ ?_ hs) rfl rfl ?_) | ((with_reducible refine PCall.mark ?_); first | refine PCall.mk (ends85_D _ _ hs) rfl rfl ?_ | refine PCall.mk (ends85_W _ _ ?_ hs) rfl rfl ?_) | ((with_reducible refine GCall.mark ?_); first | refine GCall.data (fun _ => ends85_D _ _ hs) rfl rfl ?_ | refine GCall.scal (fun _ => ends85_D _ _ hs) rfl rfl ?_ | refine GCall.data (fun _ => ends85_W _ _ ?_ hs) rfl rfl ?_ | refine GCall.scal (fun _ => ends85_W _ _ ?_ hs) rfl rfl ?_) | ((with_reducible refine MCall.mark ?_); first | refine MCall.data (fun _ => ends85_D _ _ hs) rfl rfl ?_ | refine MCall.plain (PCall.mk (ends85_D _ _ hs) rfl rfl ?_) | refine MCall.data (fun _ => ends85_W _ _ ?_ hs) rfl rfl ?_ | refine MCall.plain (PCall.mk (ends85_W _ _ ?_ hs) rfl rfl ?_)) | ((with_reducible refine ex_mark ?_); first | refine dq_bstr (j.cell) Tryz.underlying63 Tryz.underlying5 Tryz.underlying9 rfl rfl rfl ?_ ?_) | ((with_reducible refine ECall.mark ?_); first | refine ECall.only ?_ (fun h => nomatch h) | refine ECall.only ?_ ?_) | ((with_reducible refine Drawn.mark ?_); first | refine Drawn.quiet (by kernel_rfl) ?_) | refine dcell_ok rfl ?_ | refine AppC.new ?_))
    all_goals try ((conv => whnf); with_reducible refine Round.mark ?_)
    all_goals try first | ((with_reducible show Option.isSome (slElem _ _) = true); kernel_rfl) | ((with_reducible show slElem _ _ = some _); kernel_rfl) | ((with_reducible refine enters_mark ?_); kernel_rfl) | (with_reducible assumption) | ((with_reducible show List.all _ DV.one = true); rfl) | ((with_reducible show (_ : Nat) = _); rfl) | ((with_reducible show (_ == true) = true); simpa using h) | ((with_reducible show (_ : Nat) ≤ _); exact Nat.le_of_ble_eq_true rfl) | ((with_reducible show (_ : Int) ≤ _); first | omega | decide) | ((with_reducible show (_ : Int) < _); first | omega | decide) | ((with_reducible show (_ : Nat) < _); omega) | ((with_reducible show (_ : Nat) ≤ _); omega)
    all_goals try (first | (rfl; done) | (exact of_decide_eq_true (by simpa using h); done) | (exact ln_b1 _; done) | (exact dx_b2 hj.ok hs; done) | (exact dx_b3 hj.ok hs; done) | (exact rs_r1 _; done) | (exact dx_r2 hj.ok hs; done) | (exact dx_r3 hj.ok hs; done) | (exact bytes_take _; done) | (exact of_decide_eq_true (by assumption); done))
    · have := endX_0 (eq_of_beq h); omega
    · have := endX_0 (n44 (Int.toNat_natCast _) h).1; omega
    · rename_i h2
      have c1 := (n44 (Int.toNat_natCast _) h2).1
      have c2 := (n44 (Int.toNat_natCast _) h2).2
      conv => whnf
      refine Tells.of (r1 := .tup [cutD ⟨false, j.l, j.at_, j.line⟩, bl false]) (tl_bad (dp_bad hj c1 c2 h)) (Tells.mk (DW.tupl (DWl.cons (DW.aggl (DWl.cons (DW.pubM rfl rfl rfl rfl strRow (rowS_f _)) (DWl.cons (DW.int rfl) (DWl.cons (DW.same _ rfl) DWl.nil)))) (DWl.cons (DW.same _ rfl) DWl.nil))))
    · rename_i h2
      have := endX_0 (n44 (Int.toNat_natCast _) h2).1; omega
    · rename_i h2
      have c1 := (n44 (Int.toNat_natCast _) h2).1
      have c2 := (n44 (Int.toNat_natCast _) h2).2
      have hlt := endX_0 c1
      have hn := dp_next hj c1 c2 h
      refine Round.go (fun _ => _) hn (by show s.size - (j.at_ + 1) < s.size - j.at_; omega) (Weak.list [(0, some 0), (1, some 1), (2, some 2), (3, some 5)] [] (by kernel_rfl) ?_ ?_)
      · repeat' (first | exact wsucc hlt (by omega) | exact DWl.eq (bytes_push s j.cell j.at_) (bytesD_all _) | exact size_push s j.cell j.at_ | exact DWl.eq rfl (rowS_all _) | exact DWl.eq rfl (bytesD_all _) | exact DW.same _ rfl | exact DW.ref _ _ _ rfl | exact DW.arr _ _ _ rfl | exact OW.cells rfl rfl (DWl.same rfl) | refine OW.cells rfl rfl ?_ | refine DWl.cons ?_ ?_ | exact DWl.nil | exact DW.nilArr _ rfl | exact DW.nilLst _ | refine DW.clol ?_ ?_ | refine DW.aggl ?_ | refine DW.tupl ?_ | refine DW.int ?_ | refine DW.bool ?_ | refine DW.str ?_ | refine DW.arrE rfl ?_ | ((conv => whnf); first | refine And.intro ?_ ?_ | trivial))
      · repeat' (first | exact wsucc hlt (by omega) | exact DWl.eq (bytes_push s j.cell j.at_) (bytesD_all _) | exact size_push s j.cell j.at_ | exact DWl.eq rfl (rowS_all _) | exact DWl.eq rfl (bytesD_all _) | exact DW.same _ rfl | exact DW.ref _ _ _ rfl | exact DW.arr _ _ _ rfl | exact OW.cells rfl rfl (DWl.same rfl) | refine OW.cells rfl rfl ?_ | refine DWl.cons ?_ ?_ | exact DWl.nil | exact DW.nilArr _ rfl | exact DW.nilLst _ | refine DW.clol ?_ ?_ | refine DW.aggl ?_ | refine DW.tupl ?_ | refine DW.int ?_ | refine DW.bool ?_ | refine DW.str ?_ | refine DW.arrE rfl ?_ | ((conv => whnf); first | refine And.intro ?_ ?_ | trivial))
    · rename_i h2
      have hb := dx_end hj.ok (dp_2 hj) h
      conv => whnf
      refine Tells.of (r1 := .tup [cutD ⟨true, j.l ++ [j.cell], j.at_ + (endX s j.at_).toNat, IntKind.i64.wrap (j.line + 1)⟩, bl true]) (tl_bad hb) (Tells.mk (DW.tupl (DWl.cons (DW.aggl (DWl.cons (DW.pubM rfl (rl_push j).symm rfl rfl strRow ((rs_push j).trans (rowS_f _))) (DWl.cons (DW.int (x_at hj.ok.at_ hs)) (DWl.cons (DW.same _ rfl) DWl.nil)))) (DWl.cons (DW.same _ rfl) DWl.nil))))
    · rename_i h2
      have hlt := endX_0 (endX_no h)
      have hn := dx_comma hj.ok (dp_2 hj) h (c44 (Int.toNat_natCast _) h2 h)
      refine Round.go (fun _ => _) hn (by have := hj.from_; show s.size - (j.at_ + 1) < s.size - i.at_; omega) (Weak.list [(0, some 0), (1, some 1), (2, some 5)] [] (by kernel_rfl) ?_ ?_)
      · repeat' (first | exact wsucc hlt (by omega) | exact rl_push j | exact DWl.eq (rs_push j) (rowS_all _) | exact DW.same _ rfl | exact DW.ref _ _ _ rfl | exact DW.arr _ _ _ rfl | exact OW.cells rfl rfl (DWl.same rfl) | refine OW.cells rfl rfl ?_ | refine DWl.cons ?_ ?_ | exact DWl.nil | exact DW.nilArr _ rfl | exact DW.nilLst _ | refine DW.clol ?_ ?_ | refine DW.aggl ?_ | refine DW.tupl ?_ | refine DW.int ?_ | refine DW.bool ?_ | refine DW.str ?_ | refine DW.arrE rfl ?_ | ((conv => whnf); first | refine And.intro ?_ ?_ | trivial))
      · repeat' (first | exact wsucc hlt (by omega) | exact rl_push j | exact DWl.eq (rs_push j) (rowS_all _) | exact DW.same _ rfl | exact DW.ref _ _ _ rfl | exact DW.arr _ _ _ rfl | exact OW.cells rfl rfl (DWl.same rfl) | refine OW.cells rfl rfl ?_ | refine DWl.cons ?_ ?_ | exact DWl.nil | exact DW.nilArr _ rfl | exact DW.nilLst _ | refine DW.clol ?_ ?_ | refine DW.aggl ?_ | refine DW.tupl ?_ | refine DW.int ?_ | refine DW.bool ?_ | refine DW.str ?_ | refine DW.arrE rfl ?_ | ((conv => whnf); first | refine And.intro ?_ ?_ | trivial))
end Go.Proofs.YtlchjjchgebfiaaGreatDoor

/- Read: the document's row is the program's. -/
namespace Go.Proofs.YtlchjjchgebfiaaGreatDoor
open Go.RowKit Go.Dl
abbrev w64 (x : Int) : Int := IntKind.i64.wrap x
theorem wr_l (x y : Int) : w64 (w64 x + y) = w64 (x + y) := by
  simp only [w64, IntKind.wrap_i64]; omega
theorem wr_r (x y : Int) : w64 (x + w64 y) = w64 (x + y) := by
  simp only [w64, IntKind.wrap_i64]; omega
theorem wr_w (x : Int) : w64 (w64 x) = w64 x := by
  simp only [w64, IntKind.wrap_i64]; omega
theorem wr_0 {x : Int} (h : w64 x = x) : w64 (x + 0) = x := by rw [Int.add_zero]; exact h
theorem wr_1 (ln x : Int) : w64 (w64 (ln + x) + 1) = w64 (ln + w64 (x + 1)) := by rw [wr_l, wr_r, Int.add_assoc]
/-- The state with its line counted from elsewhere. -/
def sh (ln : Int) (i : RS) : RS := ⟨i.st, i.cell, i.l, i.at_, w64 (ln + i.line)⟩
def shR (ln : Int) (r : RR) : RR := ⟨r.ok, r.row, r.at_, w64 (ln + r.line)⟩
def shO (ln : Int) : Out → Out
  | .more j => .more (sh ln j)
  | .stop r => .stop (shR ln r)
theorem nl_sh (c ln x : Int) : nlI c (w64 (ln + x)) = w64 (ln + nlI c x) := by
  unfold nlI
  cases c == 10 with
  | true => exact wr_1 ln x
  | false => rfl
theorem shO_b (ln : Int) (b : Bool) (x y : Out) : shO ln (bif b then x else y) = bif b then shO ln x else shO ln y := by cases b <;> rfl
theorem step_sh (s : ByteArray) (ln : Int) (i : RS) : stepR s (sh ln i) = shO ln (stepR s i) := by
  unfold stepR
  rw [shO_b, shO_b, shO_b, shO_b, shO_b, shO_b, shO_b]
  simp only [shO, sh, shR, nl_sh]
  rw [show IntKind.i64.wrap (w64 (ln + i.line) + 1) = w64 (ln + IntKind.i64.wrap (i.line + 1)) from wr_1 _ _]
  rfl
structure Rel (s : ByteArray) (ln : Int) (p d : RR) : Prop where
  ok : d.ok = p.ok
  row : p.ok = true → d.row = p.row ∧ p.row ≠ []
  at_ : p.ok = true → (d.at_ = p.at_ ∧ w64 (ln + d.line) = p.line) ∨ (p.at_ = s.size ∧ s.size ≤ d.at_)
theorem fin_rel {s : ByteArray} {i : RS} (ln : Int) (h : i.at_ = s.size) : Rel s ln (finR (sh ln i)) (finX i) := by
  unfold finR finX sh
  cases h1 : i.st == 2 with
  | true => exact ⟨rfl, fun h => (by cases h), fun h => (by cases h)⟩
  | false => exact ⟨rfl, fun _ => ⟨rfl, by simp⟩, fun _ => .inr ⟨h, by show s.size ≤ i.at_ + 1; omega⟩⟩
theorem out_rel {s : ByteArray} {i : RS} {r : RR} (ln : Int) (h : stepR s i = .stop r) : Rel s ln (shR ln r) (outX i r) := by
  unfold outX
  cases h1 : r.ok with
  | false => exact ⟨h1.symm, fun h => (by rw [show (shR ln r).ok = r.ok from rfl, h1] at h; cases h), fun h => (by rw [show (shR ln r).ok = r.ok from rfl, h1] at h; cases h)⟩
  | true =>
    refine ⟨rfl, fun _ => ⟨rfl, ?_⟩, fun _ => .inl ⟨rfl, rfl⟩⟩
    show r.row ≠ []
    cases e1 : i.st == 2 with
    | true =>
      cases e2 : byteAt s i.at_ == 34 with
      | true => rw [st_q1 e1 e2] at h; cases h
      | false => rw [st_q2 e1 e2] at h; cases h
    | false =>
      cases e2 : decide (0 < endR s i.at_) with
      | true => rw [st_e e1 e2] at h; cases h; simp
      | false =>
        cases e3 : byteAt s i.at_ == 44 with
        | true => rw [st_c e1 e2 e3] at h; cases h
        | false =>
          cases e4 : (bif i.st == 3 then byteAt s i.at_ == 34 else false) with
          | true => rw [st_d e1 e2 e3 e4] at h; cases h
          | false =>
            cases e5 : (bif i.st == 0 then byteAt s i.at_ == 34 else false) with
            | true => rw [st_o e1 e2 e3 e4 e5] at h; cases h
            | false =>
              cases e6 : (bif i.st == 3 then true else byteAt s i.at_ == 34) with
              | true => rw [st_b e1 e2 e3 e4 e5 e6] at h; cases h; cases h1
              | false => rw [st_p e1 e2 e3 e4 e5 e6] at h; cases h
theorem step_at {s : ByteArray} {i j : RS} (h : stepR s i = .more j) : j.at_ = i.at_ + 1 := by
  cases e1 : i.st == 2 with
  | true =>
    cases e2 : byteAt s i.at_ == 34 with
    | true => rw [st_q1 e1 e2] at h; cases h; rfl
    | false => rw [st_q2 e1 e2] at h; cases h; rfl
  | false =>
    cases e2 : decide (0 < endR s i.at_) with
    | true => rw [st_e e1 e2] at h; cases h
    | false =>
      cases e3 : byteAt s i.at_ == 44 with
      | true => rw [st_c e1 e2 e3] at h; cases h; rfl
      | false =>
        cases e4 : (bif i.st == 3 then byteAt s i.at_ == 34 else false) with
        | true => rw [st_d e1 e2 e3 e4] at h; cases h; rfl
        | false =>
          cases e5 : (bif i.st == 0 then byteAt s i.at_ == 34 else false) with
          | true => rw [st_o e1 e2 e3 e4 e5] at h; cases h; rfl
          | false =>
            cases e6 : (bif i.st == 3 then true else byteAt s i.at_ == 34) with
            | true => rw [st_b e1 e2 e3 e4 e5 e6] at h; cases h
            | false => rw [st_p e1 e2 e3 e4 e5 e6] at h; cases h; rfl
theorem row_rel {s : ByteArray} (ln : Int) : ∀ (n : Nat) (i : RS), i.at_ + n = s.size → Rel s ln (rowF s n (sh ln i)) (rowX s n i)
  | 0, i, h => fin_rel ln h
  | n + 1, i, h => by
    rw [rowF, rowX, step_sh]
    cases e : stepR s i with
    | more j => exact row_rel ln n j (by have := step_at e; omega)
    | stop r => exact out_rel ln e
theorem rowG_rel {s : ByteArray} {a : Nat} {ln : Int} (h : a ≤ s.size) (hl : w64 ln = ln) : Rel s ln (rowG s ⟨0, emB, [], a, ln⟩) (row0Y s a) := by
  have := row_rel (s := s) ln (s.size - a) ⟨0, emB, [], a, 0⟩ (by show a + (s.size - a) = _; omega)
  rw [sh, wr_0 hl] at this
  exact this
theorem nl_w (c ln : Int) (h : w64 ln = ln) : w64 (nlI c ln) = nlI c ln := by
  unfold nlI
  cases c == 10 with
  | true => exact wr_w _
  | false => exact h
end Go.Proofs.YtlchjjchgebfiaaGreatDoor

/- Read, as the document reads a table: it is what the program's gives. -/
namespace Go.Proofs.YtlchjjchgebfiaaGreatDoor
open Go.RowKit Go.Dl
attribute [local irreducible] Tri SCall TSem ECall Drawn DFun QSem PSem PCall GCall MCall Round Weak dloadE OW DWl Tells IntKind.wrap Retold ESem
structure DS where
  i : TS
  d : Nat
  ln : Int
structure DSok (s : ByteArray) (k : DS) : Prop where
  ok : TSok s k.i
  at_ : (k.d = k.i.at_ ∧ k.ln = k.i.line) ∨ (k.i.at_ = s.size ∧ s.size ≤ k.d)
  line : w64 k.ln = k.ln
  head : k.i.head.isEmpty = false → lenI k.i.head ≤ 64
  rows : k.i.head.isEmpty = true → k.i.rows = []
def dsSt (s : ByteArray) (k : DS) : St := ⟨0, tmOf [(0, strV s), (2, .ref 0 0), (3, int1 0), (4, int1 0), (5, .ref 1 0), (6, int1 k.ln), (7, int1 k.d), (8, bl k.i.head.isEmpty)], .of [(0, ⟨25, 2, [nilV, nilV]⟩), (1, ⟨25, 2, [strs k.i.head, .arr 2 k.i.rows.length]⟩), (2, ⟨22, 1, rowsC k.i.rows⟩)] 3⟩
theorem w64_1 : w64 1 = 1 := wrapI (by omega) (by omega)
theorem ds_start (s : ByteArray) : DSok s ⟨start s, 0, 1⟩ := ⟨⟨Nat.zero_le _, Nat.le_refl _, Nat.zero_le _, rfl⟩, .inl ⟨rfl, rfl⟩, w64_1, fun h => (nomatch h), fun _ => rfl⟩
section
variable {s : ByteArray} {k : DS}
theorem ds_at (hk : DSok s k) (hlt : k.d < s.size) : k.i.at_ = k.d ∧ k.i.line = k.ln := by
  rcases hk.at_ with h | h
  · exact ⟨h.1.symm, h.2.symm⟩
  · have := h.2; omega
theorem ds_lt (hk : DSok s k) (hlt : k.d < s.size) : k.i.at_ < s.size := by rw [(ds_at hk hlt).1]; exact hlt
theorem ds_rel (hk : DSok s k) (hlt : k.d < s.size) : Rel s k.ln (rowT s k.i) (row0Y s k.d) := by
  have h := ds_at hk hlt
  unfold rowT
  rw [h.1, h.2]
  exact rowG_rel (Nat.le_of_lt hlt) hk.line
theorem ds_ok {b : Bool} (hk : DSok s k) (hlt : k.d < s.size) (h : (!(row0Y s k.d).ok) = b) : (!(rowT s k.i).ok) = b := by rw [← (ds_rel hk hlt).ok]; exact h
theorem ds_row (hk : DSok s k) (hlt : k.d < s.size) (h : (!(row0Y s k.d).ok) = false) : (row0Y s k.d).row = (rowT s k.i).row := ((ds_rel hk hlt).row (by simpa using ds_ok hk hlt h)).1
theorem ds_ne (hk : DSok s k) (hlt : k.d < s.size) (h : (!(row0Y s k.d).ok) = false) : (row0Y s k.d).row.isEmpty = false := by
  have h1 := ((ds_rel hk hlt).row (by simpa using ds_ok hk hlt h)).2
  rw [ds_row hk hlt h]
  cases e : (rowT s k.i).row with
  | nil => exact absurd e h1
  | cons a l => rfl
theorem ds_sml (hk : DSok s k) (hlt : k.d < s.size) (hs : s.size ≤ 1099511627776) (h : (!(row0Y s k.d).ok) = false) : Sml (row0Y s k.d).row := by
  rw [ds_row hk hlt h]; exact sml_row (rowT_small hk.ok.at_) hs
theorem ds_next (hk : DSok s k) (hlt : k.d < s.size) (h : (!(row0Y s k.d).ok) = false) : ((row0Y s k.d).at_ = (rowT s k.i).at_ ∧ w64 (k.ln + (row0Y s k.d).line) = (rowT s k.i).line) ∨ ((rowT s k.i).at_ = s.size ∧ s.size ≤ (row0Y s k.d).at_) := (ds_rel hk hlt).at_ (by simpa using ds_ok hk hlt h)
theorem hd_t {l : List ByteArray} (h : l.isEmpty = true) : (((l.map strD).length : Int) == 0) = true := by
  cases l with
  | nil => rfl
  | cons a l => cases h
theorem hd_f {l : List ByteArray} (h : l.isEmpty = false) : (((l.map strD).length : Int) == 0) = false := by
  cases l with
  | nil => cases h
  | cons a l =>
    rw [List.length_map, List.length_cons]
    cases e : (((l.length + 1 : Nat) : Int) == 0) with
    | false => rfl
    | true => have := eq_of_beq e; omega
theorem c_hd {b : Bool} {l : List ByteArray} {m : List (List ByteArray)} {q : Bool} (hm : m = []) (h : (bif bif decide (64 < ((l.map strD).length : Int)) then true else decide (4096 < (m.length : Int)) then true else q) = b) : (bif decide (64 < ((l.map strD).length : Int)) then true else q) = b := by
  subst hm
  cases h1 : decide (64 < ((l.map strD).length : Int)) with
  | true => rw [h1] at h; exact h
  | false => rw [h1] at h; exact h
theorem c_rw {b : Bool} {l : List ByteArray} {m : Nat} {q : Bool} (hl : lenI l ≤ 64) (h : (bif bif decide (64 < ((l.map strD).length : Int)) then true else decide (4096 < ((m + 1 : Nat) : Int)) then true else q) = b) : (bif decide (4096 < ((m + 1 : Nat) : Int)) then true else q) = b := by
  rw [decide_eq_false (by unfold lenI at hl; omega)] at h
  exact h
theorem c_64 {l : List ByteArray} {q : Bool} (h : (bif decide (64 < ((l.map strD).length : Int)) then true else q) = false) : lenI l ≤ 64 := by
  unfold lenI
  cases h1 : decide (64 < ((l.map strD).length : Int)) with
  | true => rw [h1] at h; cases h
  | false => have := of_decide_eq_false h1; omega
/-- The head was read. -/
theorem ds_head (hk : DSok s k) (hlt : k.d < s.size) (h : (!(row0Y s k.d).ok) = false) (h2 : k.i.head.isEmpty = true) (h3 : (bif bif decide (64 < (((row0Y s k.d).row.map strD).length : Int)) then true else decide (4096 < (k.i.rows.length : Int)) then true else !rowB (row0Y s k.d).row (((row0Y s k.d).row.map strD).length : Nat)) = false) : DSok s ⟨⟨(row0Y s k.d).row, k.i.rows, (rowT s k.i).at_, (rowT s k.i).line, k.i.left - 1⟩, (row0Y s k.d).at_, w64 (k.ln + (row0Y s k.d).line)⟩ := by
  have h4 := c_hd (hk.rows h2) h3
  have hne := ds_ne hk hlt h
  have h5 := ds_row hk hlt h
  refine ⟨ts_next hk.ok (ds_lt hk hlt) (ds_ok hk hlt h) (e_h0 (ds_ok hk hlt h) (hd_t h2) (by rw [← h5]; exact h4)) (by rw [next_h (hd_t h2), h5]) rfl rfl hk.ok.rows, ds_next hk hlt h, wr_w _, fun _ => c_64 h4, fun e => ?_⟩
  rw [hne] at e; cases e
theorem ds_push (hk : DSok s k) (hlt : k.d < s.size) (h : (!(row0Y s k.d).ok) = false) (h2 : k.i.head.isEmpty = false) (h3 : ((((row0Y s k.d).row.map strD).length : Int) != ((k.i.head.map strD).length : Nat)) = false) (h4 : (bif bif decide (64 < ((k.i.head.map strD).length : Int)) then true else decide (4096 < ((k.i.rows.length + 1 : Nat) : Int)) then true else !rowB (row0Y s k.d).row ((k.i.head.map strD).length : Nat)) = false) : DSok s ⟨⟨k.i.head, k.i.rows ++ [(row0Y s k.d).row], (rowT s k.i).at_, (rowT s k.i).line, k.i.left - 1⟩, (row0Y s k.d).at_, w64 (k.ln + (row0Y s k.d).line)⟩ := by
  have h6 := c_rw (hk.head h2) h4
  have h5 := ds_row hk hlt h
  refine ⟨ts_next hk.ok (ds_lt hk hlt) (ds_ok hk hlt h) (e_r0 (ds_ok hk hlt h) (hd_f h2) (by rw [← h5]; exact h3) (by rw [← h5]; exact h6)) (by rw [next_r (hd_f h2), h5]) rfl rfl (by rw [List.length_append]; exact rows_lt h6), ds_next hk hlt h, wr_w _, hk.head, fun e => ?_⟩
  rw [h2] at e; cases e
variable (hne : (s == emB) = false)
include hne
theorem ds_20 (hk : DSok s k) (hlt : k.d < s.size) (h : (!(row0Y s k.d).ok) = true) : readT s = ⟨⟨[], []⟩, k.ln, 20⟩ := by
  rw [rd_err hne hk.ok (ds_lt hk hlt) (e_20 (ds_ok hk hlt h)) rfl, (ds_at hk hlt).2]
theorem ds_30 (hk : DSok s k) (hlt : k.d < s.size) (h : (!(row0Y s k.d).ok) = false) (h2 : k.i.head.isEmpty = true) (h3 : (bif bif decide (64 < (((row0Y s k.d).row.map strD).length : Int)) then true else decide (4096 < (k.i.rows.length : Int)) then true else !rowB (row0Y s k.d).row (((row0Y s k.d).row.map strD).length : Nat)) = true) : readT s = ⟨⟨[], []⟩, k.ln, 30⟩ := by
  rw [rd_err hne hk.ok (ds_lt hk hlt) (e_hd (ds_ok hk hlt h) (hd_t h2) (by rw [← ds_row hk hlt h]; exact c_hd (hk.rows h2) h3)) rfl, (ds_at hk hlt).2]
theorem ds_31 (hk : DSok s k) (hlt : k.d < s.size) (h : (!(row0Y s k.d).ok) = false) (h2 : k.i.head.isEmpty = false) (h3 : ((((row0Y s k.d).row.map strD).length : Int) != ((k.i.head.map strD).length : Nat)) = true) : readT s = ⟨⟨[], []⟩, k.ln, 31⟩ := by
  rw [rd_err hne hk.ok (ds_lt hk hlt) (e_31 (ds_ok hk hlt h) (hd_f h2) (by rw [← ds_row hk hlt h]; exact h3)) rfl, (ds_at hk hlt).2]
theorem ds_32 (hk : DSok s k) (hlt : k.d < s.size) (h : (!(row0Y s k.d).ok) = false) (h2 : k.i.head.isEmpty = false) (h3 : ((((row0Y s k.d).row.map strD).length : Int) != ((k.i.head.map strD).length : Nat)) = false) (h4 : (bif bif decide (64 < ((k.i.head.map strD).length : Int)) then true else decide (4096 < ((k.i.rows.length + 1 : Nat) : Int)) then true else !rowB (row0Y s k.d).row ((k.i.head.map strD).length : Nat)) = true) : readT s = ⟨⟨[], []⟩, k.ln, 30⟩ := by
  rw [rd_err hne hk.ok (ds_lt hk hlt) (e_rw (ds_ok hk hlt h) (hd_f h2) (by rw [← ds_row hk hlt h]; exact h3) (by rw [← ds_row hk hlt h]; exact c_rw (hk.head h2) h4)) rfl, (ds_at hk hlt).2]
theorem ds_fin (hk : DSok s k) (hge : s.size ≤ k.d) : readT s = ⟨⟨k.i.head, k.i.rows⟩, 0, 0⟩ := by
  refine rd_fin hne hk.ok ?_
  rcases hk.at_ with h | h
  · have := h.1; omega
  · exact Nat.le_of_eq h.1.symm
end
def tabT (r : TR) : DV := .tup [tab r.t, int1 r.line, int1 r.err]
theorem tb_is {s : ByteArray} {r : TR} (h : readT s = r) : tabT (readT s) = tabT r := by rw [h]
attribute [local irreducible] rowsC rowB readG rowT eT rowG row0Y
set_option maxRecDepth 20000 in
set_option maxHeartbeats 4000000 in
set_option pp.maxSteps 800 in
theorem read18_D (s : ByteArray) (hs : s.size ≤ 1099511627776) : DPure Tryz.prog 18 [strV s] (tabT (readT s)) := by
  refine DFun.data (DFun.body Tryz.func18 rfl (by kernel_rfl) ?_)
  repeat' (first | with_reducible rfl | ((conv => whnf); first | refine And.intro ?_ ?_ | (intro h; first | with_reducible exact tf_no h | with_reducible exact ft_no h | exact Bool.noConfusion h | with_reducible exact h | (have ht : true = true := h; clear ht h) | skip) | ((with_reducible refine DWl.mark ?_); repeat' (first | refine DWl.cons ?_ ?_ | exact DWl.nil | exact DW.same _ rfl | exact DW.ref _ _ _ rfl | exact DW.arr _ _ _ rfl | exact DW.sub _ _ _ _ rfl | exact DW.nilLst _ | refine DW.aggl ?_ | refine DW.tupl ?_ | refine DW.clol ?_ ?_ | refine DW.int ?_ | refine DW.bool ?_ | refine DW.str ?_)) | ((with_reducible refine ECall.mark ?_); first | refine ECall.only ?_ (fun h => nomatch h) | refine ECall.only ?_ ?_) | ((with_reducible refine Drawn.mark ?_); first | refine Drawn.quiet (by kernel_rfl) ?_) | refine dcell_ok rfl ?_ | refine AppC.new ?_))
  all_goals first | (with_reducible refine enters_mark ?_; kernel_rfl) | (with_reducible refine boolT_mark ?_; kernel_rfl) | rfl | trivial | assumption | exact Nat.le_of_ble_eq_true rfl | (show entersB _ _ = true; kernel_rfl) | exact DW.same _ rfl | exact DW.ref _ _ _ rfl | exact DW.arr _ _ _ rfl | refine DW.int ?_ | refine dvb ?_ | refine dvi ?_ | exact OW.cells rfl rfl (DWl.same rfl) | exact Nat.zero_le _ | omega | skip
  all_goals repeat' (first | refine OW.cells rfl rfl ?_ | exact DW.nilArr _ rfl | refine DWl.cons ?_ ?_ | exact DWl.nil | exact DW.same _ rfl | exact DW.ref _ _ _ rfl | exact DW.arr _ _ _ rfl | exact DW.sub _ _ _ _ rfl | exact DW.nilLst _ | refine DW.aggl ?_ | refine DW.tupl ?_ | refine DW.clol ?_ ?_)
  all_goals try ((conv => whnf); with_reducible first | refine Round.mark ?_ | refine Tells.mark ?_ | refine Retold.mark ?_)
  all_goals try first | (show (_ : Bool) = _; simp_all; done) | (show (_ : Int) < _; simp at *; omega) | (show (_ : Int) ≤ _; simp at *; omega) | (show (_ : Nat) < _; simp at *; omega) | (show (_ : Nat) ≤ _; simp at *; omega)
  · conv => whnf
    refine Tells.of (r1 := tabT ⟨⟨[], []⟩, 0, 50⟩) (tb_is (by rw [readT, show (s == emB) = true from h]; rfl)) (Tells.mk (DW.tupl (DWl.cons (DW.aggl (DWl.cons (DW.nilLst _) (DWl.cons (DW.nilLst _) DWl.nil))) (DWl.same rfl))))
  · have hne : (s == emB) = false := h
    conv => whnf
    refine Tri.loop (dsSt s) (DSok s) (fun k => k.i.left) ⟨start s, 0, 1⟩ (by kernel_rfl) (Weak.list [(0, some 0), (1, some 1), (2, none)] [] (by kernel_rfl) ?_ ?_) (ds_start s) ?_
    · repeat' (first | exact rowsC_nil | exact DW.nilArr _ rfl | exact DW.nilLst _ | exact DW.same _ rfl | exact DW.ref _ _ _ rfl | exact DW.arr _ _ _ rfl | exact OW.cells rfl rfl (DWl.same rfl) | refine OW.cells rfl rfl ?_ | refine DWl.cons ?_ ?_ | exact DWl.nil | exact DW.nilArr _ rfl | exact DW.nilLst _ | refine DW.clol ?_ ?_ | refine DW.aggl ?_ | refine DW.tupl ?_ | refine DW.int ?_ | refine DW.bool ?_ | refine DW.str ?_ | refine DW.arrE rfl ?_ | ((conv => whnf); first | refine And.intro ?_ ?_ | trivial))
    · repeat' (first | exact rowsC_nil | exact DW.nilArr _ rfl | exact DW.nilLst _ | exact DW.same _ rfl | exact DW.ref _ _ _ rfl | exact DW.arr _ _ _ rfl | exact OW.cells rfl rfl (DWl.same rfl) | refine OW.cells rfl rfl ?_ | refine DWl.cons ?_ ?_ | exact DWl.nil | exact DW.nilArr _ rfl | exact DW.nilLst _ | refine DW.clol ?_ ?_ | refine DW.aggl ?_ | refine DW.tupl ?_ | refine DW.int ?_ | refine DW.bool ?_ | refine DW.str ?_ | refine DW.arrE rfl ?_ | ((conv => whnf); first | refine And.intro ?_ ?_ | trivial))
    intro k hk
    show dcode _ _ _ _ (dsSt s k) _
    have hlt0 := fun (h : decide ((k.d : Int) < (s.size : Int)) = true) => lt_int h
    have hr := fun n (h0 : decide ((k.d : Int) < (s.size : Int)) = true) h => row51_D (row0Y s k.d).row n (ds_sml hk (hlt0 h0) hs h)
    repeat' (first | with_reducible rfl | ((conv => whnf); first | refine And.intro ?_ ?_ | (intro h; first | with_reducible exact tf_no h | with_reducible exact ft_no h | exact Bool.noConfusion h | with_reducible exact h | (have ht : true = true := h; clear ht h) | skip) | ((with_reducible refine DWl.mark ?_); repeat' (first | refine DWl.cons ?_ ?_ | exact DWl.nil | exact DW.same _ rfl | exact DW.ref _ _ _ rfl | exact DW.arr _ _ _ rfl | exact DW.sub _ _ _ _ rfl | exact DW.nilLst _ | refine DW.aggl ?_ | refine DW.tupl ?_ | refine DW.clol ?_ ?_ | refine DW.int ?_ | refine DW.bool ?_ | refine DW.str ?_)) | ((with_reducible refine SCall.mark ?_); first | refine SCall.data (row50_D _ hs _ ?_) rfl rfl ?_ | refine SCall.scal (row50_D _ hs _ ?_) rfl rfl ?_ | refine SCall.data (hr _ ?_ ?_) rfl rfl ?_ | refine SCall.scal (hr _ ?_ ?_) rfl rfl ?_) | ((with_reducible refine PCall.mark ?_); first | refine PCall.mk (row50_D _ hs _ ?_) rfl rfl ?_ | refine PCall.mk (hr _ ?_ ?_) rfl rfl ?_) | ((with_reducible refine GCall.mark ?_); first | refine GCall.data (fun _ => row50_D _ hs _ ?_) rfl rfl ?_ | refine GCall.scal (fun _ => row50_D _ hs _ ?_) rfl rfl ?_ | refine GCall.data (fun _ => hr _ ?_ ?_) rfl rfl ?_ | refine GCall.scal (fun _ => hr _ ?_ ?_) rfl rfl ?_) | ((with_reducible refine MCall.mark ?_); first | refine MCall.data (fun _ => row50_D _ hs _ ?_) rfl rfl ?_ | refine MCall.plain (PCall.mk (row50_D _ hs _ ?_) rfl rfl ?_) | refine MCall.data (fun _ => hr _ ?_ ?_) rfl rfl ?_ | refine MCall.plain (PCall.mk (hr _ ?_ ?_) rfl rfl ?_)) | ((with_reducible refine ECall.mark ?_); first | refine ECall.only ?_ (fun h => nomatch h) | refine ECall.only ?_ ?_) | ((with_reducible refine Drawn.mark ?_); first | refine Drawn.quiet (by kernel_rfl) ?_) | refine dcell_ok rfl ?_ | refine AppC.new ?_))
    all_goals try ((conv => whnf); with_reducible refine Round.mark ?_)
    all_goals try first | ((with_reducible show Option.isSome (slElem _ _) = true); kernel_rfl) | ((with_reducible show slElem _ _ = some _); kernel_rfl) | ((with_reducible refine enters_mark ?_); kernel_rfl) | (with_reducible assumption) | ((with_reducible show List.all _ DV.one = true); rfl) | ((with_reducible show (_ : Nat) = _); rfl) | ((with_reducible show (_ == true) = true); simpa using h) | ((with_reducible show (_ : Nat) ≤ _); exact Nat.le_of_ble_eq_true rfl) | ((with_reducible show (_ : Int) ≤ _); first | omega | decide) | ((with_reducible show (_ : Int) < _); first | omega | decide) | ((with_reducible show (_ : Nat) < _); omega) | ((with_reducible show (_ : Nat) ≤ _); omega)
    · rfl
    · exact Nat.le_of_lt (hlt0 h)
    · exact Nat.zero_lt_succ _
    · exact Nat.lt_succ_self _
    · rename_i h0
      conv => whnf
      refine Tells.of (r1 := tabT ⟨⟨[], []⟩, k.ln, 20⟩) (tb_is (ds_20 hne hk (hlt0 h0) h)) (Tells.mk (DW.tupl (DWl.cons (DW.aggl (DWl.cons (DW.nilLst _) (DWl.cons (DW.nilLst _) DWl.nil))) (DWl.same rfl))))
    · simpa using h
    · simpa using h
    · rename_i h0 h1 h2
      conv => whnf
      refine Tells.of (r1 := tabT ⟨⟨[], []⟩, k.ln, 30⟩) (tb_is (ds_30 hne hk (hlt0 h0) h1 h2 h)) (Tells.mk (DW.tupl (DWl.cons (DW.aggl (DWl.cons (DW.nilLst _) (DWl.cons (DW.nilLst _) DWl.nil))) (DWl.same rfl))))
    · rename_i h0 h1 h2
      have hlt := hlt0 h0
      have hl := ts_left hk.ok (ds_lt hk hlt)
      refine Round.go (fun _ => _) (ds_head hk hlt h1 h2 h) (by show k.i.left - 1 < k.i.left; omega) (Weak.list [(0, some 0), (1, some 1), (2, some 2)] [] (by kernel_rfl) ?_ ?_)
      · repeat' (first | exact DWl.eq rfl (rowsC_all _) | exact (ds_ne hk hlt h1).symm | exact DW.same _ rfl | exact DW.ref _ _ _ rfl | exact DW.arr _ _ _ rfl | exact OW.cells rfl rfl (DWl.same rfl) | refine OW.cells rfl rfl ?_ | refine DWl.cons ?_ ?_ | exact DWl.nil | exact DW.nilArr _ rfl | exact DW.nilLst _ | refine DW.clol ?_ ?_ | refine DW.aggl ?_ | refine DW.tupl ?_ | refine DW.int ?_ | refine DW.bool ?_ | refine DW.str ?_ | refine DW.arrE rfl ?_ | ((conv => whnf); first | refine And.intro ?_ ?_ | trivial))
      · repeat' (first | exact DWl.eq rfl (rowsC_all _) | exact (ds_ne hk hlt h1).symm | exact DW.same _ rfl | exact DW.ref _ _ _ rfl | exact DW.arr _ _ _ rfl | exact OW.cells rfl rfl (DWl.same rfl) | refine OW.cells rfl rfl ?_ | refine DWl.cons ?_ ?_ | exact DWl.nil | exact DW.nilArr _ rfl | exact DW.nilLst _ | refine DW.clol ?_ ?_ | refine DW.aggl ?_ | refine DW.tupl ?_ | refine DW.int ?_ | refine DW.bool ?_ | refine DW.str ?_ | refine DW.arrE rfl ?_ | ((conv => whnf); first | refine And.intro ?_ ?_ | trivial))
    · rename_i h0 h1 h2
      conv => whnf
      refine Tells.of (r1 := tabT ⟨⟨[], []⟩, k.ln, 31⟩) (tb_is (ds_31 hne hk (hlt0 h0) h1 h2 h)) (Tells.mk (DW.tupl (DWl.cons (DW.aggl (DWl.cons (DW.nilLst _) (DWl.cons (DW.nilLst _) DWl.nil))) (DWl.same rfl))))
    · exact rc_b1 _
    · exact rc_b2 hk.ok.rows
    · exact rc_b3 hk.ok.rows
    · simpa using h
    · simpa using h
    · rename_i h0 h1 h2 h3
      conv => whnf
      refine Tells.of (r1 := tabT ⟨⟨[], []⟩, k.ln, 30⟩) (tb_is (ds_32 hne hk (hlt0 h0) h1 h2 h3 h)) (Tells.mk (DW.tupl (DWl.cons (DW.aggl (DWl.cons (DW.nilLst _) (DWl.cons (DW.nilLst _) DWl.nil))) (DWl.same rfl))))
    · rename_i h0 h1 h2 h3
      have hlt := hlt0 h0
      have hl := ts_left hk.ok (ds_lt hk hlt)
      refine Round.go (fun _ => _) (ds_push hk hlt h1 h2 h3 h) (by show k.i.left - 1 < k.i.left; omega) (Weak.list [(0, some 0), (1, some 1), (2, some 5)] [] (by kernel_rfl) ?_ ?_)
      · repeat' (first | exact DWl.eq (rowsC_push _ _) (rowsC_all _) | exact rows_pl _ _ | exact h2.symm | exact DWl.same rfl | exact DW.same _ rfl | exact DW.ref _ _ _ rfl | exact DW.arr _ _ _ rfl | exact OW.cells rfl rfl (DWl.same rfl) | refine OW.cells rfl rfl ?_ | refine DWl.cons ?_ ?_ | exact DWl.nil | exact DW.nilArr _ rfl | exact DW.nilLst _ | refine DW.clol ?_ ?_ | refine DW.aggl ?_ | refine DW.tupl ?_ | refine DW.int ?_ | refine DW.bool ?_ | refine DW.str ?_ | refine DW.arrE rfl ?_ | ((conv => whnf); first | refine And.intro ?_ ?_ | trivial))
      · repeat' (first | exact DWl.eq (rowsC_push _ _) (rowsC_all _) | exact rows_pl _ _ | exact h2.symm | exact DWl.same rfl | exact DW.same _ rfl | exact DW.ref _ _ _ rfl | exact DW.arr _ _ _ rfl | exact OW.cells rfl rfl (DWl.same rfl) | refine OW.cells rfl rfl ?_ | refine DWl.cons ?_ ?_ | exact DWl.nil | exact DW.nilArr _ rfl | exact DW.nilLst _ | refine DW.clol ?_ ?_ | refine DW.aggl ?_ | refine DW.tupl ?_ | refine DW.int ?_ | refine DW.bool ?_ | refine DW.str ?_ | refine DW.arrE rfl ?_ | ((conv => whnf); first | refine And.intro ?_ ?_ | trivial))
    · have hge := ge_int h
      conv => whnf
      refine Tells.of (r1 := tabT ⟨⟨k.i.head, k.i.rows⟩, 0, 0⟩) (tb_is (ds_fin hne hk hge)) (Tells.mk (DW.tupl (DWl.cons (DW.aggl (DWl.cons (DW.same _ rfl) (DWl.cons (DW.pubM rfl rfl rfl rfl rowRow (rowsC_eq _)) DWl.nil))) (DWl.same rfl))))
end Go.Proofs.YtlchjjchgebfiaaGreatDoor

/- Two tables that are the same, as the document compares them. -/
namespace Go.Proofs.YtlchjjchgebfiaaGreatDoor
open Go.RowKit Go.Dl
attribute [local irreducible] Tri SCall TSem ECall Drawn DFun QSem PSem PCall GCall MCall Round Weak dloadE OW DWl Tells IntKind.wrap Retold ESem
theorem ba_ne (a : ByteArray) : (a != a) = false := by
  show (!(a == a)) = false
  rw [ba_eq.2 rfl]; rfl
def sameSt (l : List ByteArray) (i : Nat) : St := ⟨0, tmOf [(0, strs l), (1, strs l), (4, bl false), (5, int1 i)], .of [] 0⟩
set_option maxRecDepth 20000 in
theorem same47_D (l : List ByteArray) (hl : l.length ≤ 140737488355328) : DPure Tryz.prog 47 [strs l, strs l] (bl true) := by
  refine DFun.body Tryz.func47 rfl (by kernel_rfl) ?_
  repeat' (first | with_reducible rfl | ((conv => whnf); first | refine And.intro ?_ ?_ | (intro h; first | with_reducible exact tf_no h | with_reducible exact ft_no h | exact Bool.noConfusion h | with_reducible exact h | (have ht : true = true := h; clear ht h) | skip) | ((with_reducible refine DWl.mark ?_); repeat' (first | refine DWl.cons ?_ ?_ | exact DWl.nil | exact DW.same _ rfl | exact DW.ref _ _ _ rfl | exact DW.arr _ _ _ rfl | exact DW.sub _ _ _ _ rfl | exact DW.nilLst _ | refine DW.aggl ?_ | refine DW.tupl ?_ | refine DW.clol ?_ ?_ | refine DW.int ?_ | refine DW.bool ?_ | refine DW.str ?_)) | ((with_reducible refine ECall.mark ?_); first | refine ECall.only ?_ (fun h => nomatch h) | refine ECall.only ?_ ?_) | ((with_reducible refine Drawn.mark ?_); first | refine Drawn.quiet (by kernel_rfl) ?_) | refine dcell_ok rfl ?_ | refine AppC.new ?_))
  all_goals first | (with_reducible refine enters_mark ?_; kernel_rfl) | (with_reducible refine boolT_mark ?_; kernel_rfl) | rfl | trivial | assumption | exact Nat.le_of_ble_eq_true rfl | (show entersB _ _ = true; kernel_rfl) | exact DW.same _ rfl | exact DW.ref _ _ _ rfl | exact DW.arr _ _ _ rfl | refine DW.int ?_ | refine dvb ?_ | refine dvi ?_ | exact OW.cells rfl rfl (DWl.same rfl) | exact Nat.zero_le _ | omega | skip
  all_goals repeat' (first | refine OW.cells rfl rfl ?_ | exact DW.nilArr _ rfl | refine DWl.cons ?_ ?_ | exact DWl.nil | exact DW.same _ rfl | exact DW.ref _ _ _ rfl | exact DW.arr _ _ _ rfl | exact DW.sub _ _ _ _ rfl | exact DW.nilLst _ | refine DW.aggl ?_ | refine DW.tupl ?_ | refine DW.clol ?_ ?_)
  all_goals try ((conv => whnf); with_reducible first | refine Round.mark ?_ | refine Tells.mark ?_ | refine Retold.mark ?_)
  all_goals try first | (show (_ : Bool) = _; simp_all; done) | (show (_ : Int) < _; simp at *; omega) | (show (_ : Int) ≤ _; simp at *; omega) | (show (_ : Nat) < _; simp at *; omega) | (show (_ : Nat) ≤ _; simp at *; omega)
  · conv => whnf
    refine Tri.loop (sameSt l) (fun i => i ≤ l.length) (fun i => l.length - i) 0 (by kernel_rfl) (Weak.list [] [] (by kernel_rfl) ?_ ?_) (Nat.zero_le _) ?_
    · repeat' (first | rfl | exact DW.same _ rfl | exact DW.ref _ _ _ rfl | exact DW.arr _ _ _ rfl | exact OW.cells rfl rfl (DWl.same rfl) | refine OW.cells rfl rfl ?_ | refine DWl.cons ?_ ?_ | exact DWl.nil | exact DW.nilArr _ rfl | exact DW.nilLst _ | refine DW.clol ?_ ?_ | refine DW.aggl ?_ | refine DW.tupl ?_ | refine DW.int ?_ | refine DW.bool ?_ | refine DW.str ?_ | refine DW.arrE rfl ?_ | ((conv => whnf); first | refine And.intro ?_ ?_ | trivial))
    · repeat' (first | rfl | exact DW.same _ rfl | exact DW.ref _ _ _ rfl | exact DW.arr _ _ _ rfl | exact OW.cells rfl rfl (DWl.same rfl) | refine OW.cells rfl rfl ?_ | refine DWl.cons ?_ ?_ | exact DWl.nil | exact DW.nilArr _ rfl | exact DW.nilLst _ | refine DW.clol ?_ ?_ | refine DW.aggl ?_ | refine DW.tupl ?_ | refine DW.int ?_ | refine DW.bool ?_ | refine DW.str ?_ | refine DW.arrE rfl ?_ | ((conv => whnf); first | refine And.intro ?_ ?_ | trivial))
    intro i hi
    show dcode _ _ _ _ (sameSt l i) _
    repeat' (first | with_reducible rfl | ((conv => whnf); first | refine And.intro ?_ ?_ | (intro h; first | with_reducible exact tf_no h | with_reducible exact ft_no h | exact Bool.noConfusion h | with_reducible exact h | (have ht : true = true := h; clear ht h) | skip) | ((with_reducible refine DWl.mark ?_); repeat' (first | refine DWl.cons ?_ ?_ | exact DWl.nil | exact DW.same _ rfl | exact DW.ref _ _ _ rfl | exact DW.arr _ _ _ rfl | exact DW.sub _ _ _ _ rfl | exact DW.nilLst _ | refine DW.aggl ?_ | refine DW.tupl ?_ | refine DW.clol ?_ ?_ | refine DW.int ?_ | refine DW.bool ?_ | refine DW.str ?_)) | ((with_reducible refine ECall.mark ?_); first | refine ECall.only ?_ (fun h => nomatch h) | refine ECall.only ?_ ?_) | ((with_reducible refine Drawn.mark ?_); first | refine Drawn.quiet (by kernel_rfl) ?_) | refine dloadE_map ((⟨#[]⟩ : ByteArray)) ?_ ?_ | refine dcell_ok rfl ?_ | refine AppC.new ?_))
    all_goals try ((conv => whnf); with_reducible refine Round.mark ?_)
    all_goals try first | ((with_reducible show Option.isSome (slElem _ _) = true); kernel_rfl) | ((with_reducible show slElem _ _ = some _); kernel_rfl) | ((with_reducible refine enters_mark ?_); kernel_rfl) | (with_reducible assumption) | ((with_reducible show List.all _ DV.one = true); rfl) | ((with_reducible show (_ : Nat) = _); rfl) | ((with_reducible show (_ == true) = true); simpa using h) | ((with_reducible show (_ : Nat) ≤ _); exact Nat.le_of_ble_eq_true rfl) | ((with_reducible show (_ : Int) ≤ _); first | omega | decide) | ((with_reducible show (_ : Int) < _); first | omega | decide) | ((with_reducible show (_ : Nat) < _); omega) | ((with_reducible show (_ : Nat) ≤ _); omega)
    · exact of_decide_eq_true h
    · exact lt_of_test h
    · exact of_decide_eq_true h
    · exact lt_of_test h
    · rw [ba_ne] at h; cases h
    · rename_i h0
      have hlt := lt_of_test h0
      refine Round.go (fun _ => i + 1) (by show i + 1 ≤ _; omega) (by show l.length - (i + 1) < l.length - i; omega) (Weak.list [] [] (by kernel_rfl) ?_ ?_)
      · repeat' (first | exact wsucc hlt (by omega) | exact DW.same _ rfl | exact DW.ref _ _ _ rfl | exact DW.arr _ _ _ rfl | exact OW.cells rfl rfl (DWl.same rfl) | refine OW.cells rfl rfl ?_ | refine DWl.cons ?_ ?_ | exact DWl.nil | exact DW.nilArr _ rfl | exact DW.nilLst _ | refine DW.clol ?_ ?_ | refine DW.aggl ?_ | refine DW.tupl ?_ | refine DW.int ?_ | refine DW.bool ?_ | refine DW.str ?_ | refine DW.arrE rfl ?_ | ((conv => whnf); first | refine And.intro ?_ ?_ | trivial))
      · repeat' (first | exact wsucc hlt (by omega) | exact DW.same _ rfl | exact DW.ref _ _ _ rfl | exact DW.arr _ _ _ rfl | exact OW.cells rfl rfl (DWl.same rfl) | refine OW.cells rfl rfl ?_ | refine DWl.cons ?_ ?_ | exact DWl.nil | exact DW.nilArr _ rfl | exact DW.nilLst _ | refine DW.clol ?_ ?_ | refine DW.aggl ?_ | refine DW.tupl ?_ | refine DW.int ?_ | refine DW.bool ?_ | refine DW.str ?_ | refine DW.arrE rfl ?_ | ((conv => whnf); first | refine And.intro ?_ ?_ | trivial))
    · repeat' (first | with_reducible rfl | ((conv => whnf); first | refine And.intro ?_ ?_ | (intro h; first | with_reducible exact tf_no h | with_reducible exact ft_no h | exact Bool.noConfusion h | with_reducible exact h | (have ht : true = true := h; clear ht h) | skip) | ((with_reducible refine DWl.mark ?_); repeat' (first | refine DWl.cons ?_ ?_ | exact DWl.nil | exact DW.same _ rfl | exact DW.ref _ _ _ rfl | exact DW.arr _ _ _ rfl | exact DW.sub _ _ _ _ rfl | exact DW.nilLst _ | refine DW.aggl ?_ | refine DW.tupl ?_ | refine DW.clol ?_ ?_ | refine DW.int ?_ | refine DW.bool ?_ | refine DW.str ?_)) | ((with_reducible refine ECall.mark ?_); first | refine ECall.only ?_ (fun h => nomatch h) | refine ECall.only ?_ ?_) | ((with_reducible refine Drawn.mark ?_); first | refine Drawn.quiet (by kernel_rfl) ?_) | refine dcell_ok rfl ?_ | refine AppC.new ?_))
      all_goals first | (with_reducible refine enters_mark ?_; kernel_rfl) | (with_reducible refine boolT_mark ?_; kernel_rfl) | rfl | trivial | assumption | exact Nat.le_of_ble_eq_true rfl | (show entersB _ _ = true; kernel_rfl) | exact DW.same _ rfl | exact DW.ref _ _ _ rfl | exact DW.arr _ _ _ rfl | refine DW.int ?_ | refine dvb ?_ | refine dvi ?_ | exact OW.cells rfl rfl (DWl.same rfl) | exact Nat.zero_le _ | omega | skip
      all_goals repeat' (first | refine OW.cells rfl rfl ?_ | exact DW.nilArr _ rfl | refine DWl.cons ?_ ?_ | exact DWl.nil | exact DW.same _ rfl | exact DW.ref _ _ _ rfl | exact DW.arr _ _ _ rfl | exact DW.sub _ _ _ _ rfl | exact DW.nilLst _ | refine DW.aggl ?_ | refine DW.tupl ?_ | refine DW.clol ?_ ?_)
      all_goals try ((conv => whnf); with_reducible first | refine Round.mark ?_ | refine Tells.mark ?_ | refine Retold.mark ?_)
      all_goals try first | (show (_ : Bool) = _; simp_all; done) | (show (_ : Int) < _; simp at *; omega) | (show (_ : Int) ≤ _; simp at *; omega) | (show (_ : Nat) < _; simp at *; omega) | (show (_ : Nat) ≤ _; simp at *; omega)
theorem sr_1 {i : Nat} {l : List (List ByteArray)} (h : decide ((i : Int) < ((l.map rowD).length : Nat)) = true) : i + 1 ≤ l.length := lt_of_test h
theorem sr_2 {i : Nat} {l : List (List ByteArray)} (h : decide ((i : Int) < ((l.map rowD).length : Nat)) = true) : l.length - (i + 1) < l.length - i := by
  have := lt_of_test h; omega
theorem sr_3 {i : Nat} {t : Tb} (h : decide ((i : Int) < ((t.rows.map rowD).length : Nat)) = true) (ht : SmlT t) : IntKind.i64.wrap ((i : Int) + 1) = ((i + 1 : Nat) : Int) := by
  have h1 := lt_of_test h
  have := ht.2.1
  exact wsucc h1 (by omega)
def sameTSt (t : Tb) (i : Nat) : St := ⟨0, tmOf [(2, .ref 0 0), (3, .ref 1 0), (4, bl false), (5, int1 i)], .of [(0, ⟨25, 2, tbD t⟩), (1, ⟨25, 2, tbD t⟩)] 2⟩
set_option maxRecDepth 20000 in
theorem same16_D (t : Tb) (ht : SmlT t) : DPure Tryz.prog 16 [tab t, tab t] (bl true) := by
  have hh : ∀ l : List ByteArray, Sml l → l.length ≤ 140737488355328 := fun l h => by have := h.1; omega
  refine DFun.body Tryz.func16 rfl (by kernel_rfl) ?_
  repeat' (first | with_reducible rfl | ((conv => whnf); first | refine And.intro ?_ ?_ | (intro h; first | with_reducible exact tf_no h | with_reducible exact ft_no h | exact Bool.noConfusion h | with_reducible exact h | (have ht : true = true := h; clear ht h) | skip) | ((with_reducible refine DWl.mark ?_); repeat' (first | refine DWl.cons ?_ ?_ | exact DWl.nil | exact DW.same _ rfl | exact DW.ref _ _ _ rfl | exact DW.arr _ _ _ rfl | exact DW.sub _ _ _ _ rfl | exact DW.nilLst _ | refine DW.aggl ?_ | refine DW.tupl ?_ | refine DW.clol ?_ ?_ | refine DW.int ?_ | refine DW.bool ?_ | refine DW.str ?_)) | ((with_reducible refine SCall.mark ?_); first | refine SCall.data (same47_D _ (hh _ ht.1)) rfl rfl ?_ | refine SCall.scal (same47_D _ (hh _ ht.1)) rfl rfl ?_) | ((with_reducible refine PCall.mark ?_); first | refine PCall.mk (same47_D _ (hh _ ht.1)) rfl rfl ?_) | ((with_reducible refine GCall.mark ?_); first | refine GCall.data (fun _ => same47_D _ (hh _ ht.1)) rfl rfl ?_ | refine GCall.scal (fun _ => same47_D _ (hh _ ht.1)) rfl rfl ?_) | ((with_reducible refine MCall.mark ?_); first | refine MCall.data (fun _ => same47_D _ (hh _ ht.1)) rfl rfl ?_ | refine MCall.plain (PCall.mk (same47_D _ (hh _ ht.1)) rfl rfl ?_)) | ((with_reducible refine ECall.mark ?_); first | refine ECall.only ?_ (fun h => nomatch h) | refine ECall.only ?_ ?_) | ((with_reducible refine Drawn.mark ?_); first | refine Drawn.quiet (by kernel_rfl) ?_) | refine dcell_ok rfl ?_ | refine AppC.new ?_))
  all_goals first | (with_reducible refine enters_mark ?_; kernel_rfl) | (with_reducible refine boolT_mark ?_; kernel_rfl) | rfl | trivial | assumption | exact Nat.le_of_ble_eq_true rfl | (show entersB _ _ = true; kernel_rfl) | exact DW.same _ rfl | exact DW.ref _ _ _ rfl | exact DW.arr _ _ _ rfl | refine DW.int ?_ | refine dvb ?_ | refine dvi ?_ | exact OW.cells rfl rfl (DWl.same rfl) | exact Nat.zero_le _ | omega | skip
  all_goals repeat' (first | refine OW.cells rfl rfl ?_ | exact DW.nilArr _ rfl | refine DWl.cons ?_ ?_ | exact DWl.nil | exact DW.same _ rfl | exact DW.ref _ _ _ rfl | exact DW.arr _ _ _ rfl | exact DW.sub _ _ _ _ rfl | exact DW.nilLst _ | refine DW.aggl ?_ | refine DW.tupl ?_ | refine DW.clol ?_ ?_)
  all_goals try ((conv => whnf); with_reducible first | refine Round.mark ?_ | refine Tells.mark ?_ | refine Retold.mark ?_)
  all_goals try first | (show (_ : Bool) = _; simp_all; done) | (show (_ : Int) < _; simp at *; omega) | (show (_ : Int) ≤ _; simp at *; omega) | (show (_ : Nat) < _; simp at *; omega) | (show (_ : Nat) ≤ _; simp at *; omega)
  conv => whnf
  refine Tri.loop (sameTSt t) (fun i => i ≤ t.rows.length) (fun i => t.rows.length - i) 0 (by kernel_rfl) (Weak.list [(0, some 0), (1, some 1)] [] (by kernel_rfl) ?_ ?_) (Nat.zero_le _) ?_
  · repeat' (first | rfl | exact DW.same _ rfl | exact DW.ref _ _ _ rfl | exact DW.arr _ _ _ rfl | exact OW.cells rfl rfl (DWl.same rfl) | refine OW.cells rfl rfl ?_ | refine DWl.cons ?_ ?_ | exact DWl.nil | exact DW.nilArr _ rfl | exact DW.nilLst _ | refine DW.clol ?_ ?_ | refine DW.aggl ?_ | refine DW.tupl ?_ | refine DW.int ?_ | refine DW.bool ?_ | refine DW.str ?_ | refine DW.arrE rfl ?_ | ((conv => whnf); first | refine And.intro ?_ ?_ | trivial))
  · repeat' (first | rfl | exact DW.same _ rfl | exact DW.ref _ _ _ rfl | exact DW.arr _ _ _ rfl | exact OW.cells rfl rfl (DWl.same rfl) | refine OW.cells rfl rfl ?_ | refine DWl.cons ?_ ?_ | exact DWl.nil | exact DW.nilArr _ rfl | exact DW.nilLst _ | refine DW.clol ?_ ?_ | refine DW.aggl ?_ | refine DW.tupl ?_ | refine DW.int ?_ | refine DW.bool ?_ | refine DW.str ?_ | refine DW.arrE rfl ?_ | ((conv => whnf); first | refine And.intro ?_ ?_ | trivial))
  intro i hi
  show dcode _ _ _ _ (sameTSt t i) _
  have hr := fun (h : i < t.rows.length) => hh (t.rows.getD (i : Int).toNat []) (ht.2.2 _ (mem_at h))
  repeat' (first | with_reducible rfl | ((conv => whnf); first | refine And.intro ?_ ?_ | (intro h; first | with_reducible exact tf_no h | with_reducible exact ft_no h | exact Bool.noConfusion h | with_reducible exact h | (have ht : true = true := h; clear ht h) | skip) | ((with_reducible refine DWl.mark ?_); repeat' (first | refine DWl.cons ?_ ?_ | exact DWl.nil | exact DW.same _ rfl | exact DW.ref _ _ _ rfl | exact DW.arr _ _ _ rfl | exact DW.sub _ _ _ _ rfl | exact DW.nilLst _ | refine DW.aggl ?_ | refine DW.tupl ?_ | refine DW.clol ?_ ?_ | refine DW.int ?_ | refine DW.bool ?_ | refine DW.str ?_)) | ((with_reducible refine SCall.mark ?_); first | refine SCall.data (same47_D _ (hr ?_)) rfl rfl ?_ | refine SCall.scal (same47_D _ (hr ?_)) rfl rfl ?_) | ((with_reducible refine PCall.mark ?_); first | refine PCall.mk (same47_D _ (hr ?_)) rfl rfl ?_) | ((with_reducible refine GCall.mark ?_); first | refine GCall.data (fun _ => same47_D _ (hr ?_)) rfl rfl ?_ | refine GCall.scal (fun _ => same47_D _ (hr ?_)) rfl rfl ?_) | ((with_reducible refine MCall.mark ?_); first | refine MCall.data (fun _ => same47_D _ (hr ?_)) rfl rfl ?_ | refine MCall.plain (PCall.mk (same47_D _ (hr ?_)) rfl rfl ?_)) | ((with_reducible refine Tri.mark ?_); first | (refine Tri.treeX [0, 1] (MX.mv 0 0 (MX.mv 0 2 (MX.mv 0 5 (MX.mv 0 7 (MX.two 1 1 (MX.two 1 3 (MX.two 1 4 (MX.mv 1 6 (MX.mv 1 8 (MX.mv 1 9 (MX.mv 2 10 (MX.mv 0 11 MX.done))))) 1 6 (MX.two 1 4 (MX.mv 1 8 (MX.mv 1 9 (MX.mv 2 10 (MX.mv 0 11 MX.done)))) 1 8 (MX.two 1 4 (MX.mv 1 9 (MX.mv 2 10 (MX.mv 0 11 MX.done))) 1 9 (MX.mv 1 4 (MX.mv 2 10 (MX.mv 0 11 MX.done)))))) 1 6 (MX.two 1 3 (MX.two 1 4 (MX.mv 1 8 (MX.mv 1 9 (MX.mv 2 10 (MX.mv 0 11 MX.done)))) 1 8 (MX.two 1 4 (MX.mv 1 9 (MX.mv 2 10 (MX.mv 0 11 MX.done))) 1 9 (MX.mv 1 4 (MX.mv 2 10 (MX.mv 0 11 MX.done))))) 1 8 (MX.two 1 3 (MX.two 1 4 (MX.mv 1 9 (MX.mv 2 10 (MX.mv 0 11 MX.done))) 1 9 (MX.mv 1 4 (MX.mv 2 10 (MX.mv 0 11 MX.done)))) 1 9 (MX.mv 1 3 (MX.mv 1 4 (MX.mv 2 10 (MX.mv 0 11 MX.done))))))) 1 6 (MX.two 1 1 (MX.two 1 3 (MX.two 1 4 (MX.mv 1 8 (MX.mv 1 9 (MX.mv 2 10 (MX.mv 0 11 MX.done)))) 1 8 (MX.two 1 4 (MX.mv 1 9 (MX.mv 2 10 (MX.mv 0 11 MX.done))) 1 9 (MX.mv 1 4 (MX.mv 2 10 (MX.mv 0 11 MX.done))))) 1 8 (MX.two 1 3 (MX.two 1 4 (MX.mv 1 9 (MX.mv 2 10 (MX.mv 0 11 MX.done))) 1 9 (MX.mv 1 4 (MX.mv 2 10 (MX.mv 0 11 MX.done)))) 1 9 (MX.mv 1 3 (MX.mv 1 4 (MX.mv 2 10 (MX.mv 0 11 MX.done)))))) 1 8 (MX.two 1 1 (MX.two 1 3 (MX.two 1 4 (MX.mv 1 9 (MX.mv 2 10 (MX.mv 0 11 MX.done))) 1 9 (MX.mv 1 4 (MX.mv 2 10 (MX.mv 0 11 MX.done)))) 1 9 (MX.mv 1 3 (MX.mv 1 4 (MX.mv 2 10 (MX.mv 0 11 MX.done))))) 1 9 (MX.mv 1 1 (MX.mv 1 3 (MX.mv 1 4 (MX.mv 2 10 (MX.mv 0 11 MX.done)))))))))))) ?_ (by kernel_rfl) ?_; rfl)) | ((with_reducible refine ECall.mark ?_); first | refine ECall.only ?_ (fun h => nomatch h) | refine ECall.only ?_ ?_) | ((with_reducible refine Drawn.mark ?_); first | (refine Drawn.tree ?_; refine Tri.treeX [0, 1] (MX.mv 0 0 (MX.mv 0 2 (MX.mv 0 5 (MX.mv 0 7 (MX.two 1 1 (MX.two 1 3 (MX.two 1 4 (MX.mv 1 6 (MX.mv 1 8 (MX.mv 1 9 (MX.mv 2 10 (MX.mv 0 11 MX.done))))) 1 6 (MX.two 1 4 (MX.mv 1 8 (MX.mv 1 9 (MX.mv 2 10 (MX.mv 0 11 MX.done)))) 1 8 (MX.two 1 4 (MX.mv 1 9 (MX.mv 2 10 (MX.mv 0 11 MX.done))) 1 9 (MX.mv 1 4 (MX.mv 2 10 (MX.mv 0 11 MX.done)))))) 1 6 (MX.two 1 3 (MX.two 1 4 (MX.mv 1 8 (MX.mv 1 9 (MX.mv 2 10 (MX.mv 0 11 MX.done)))) 1 8 (MX.two 1 4 (MX.mv 1 9 (MX.mv 2 10 (MX.mv 0 11 MX.done))) 1 9 (MX.mv 1 4 (MX.mv 2 10 (MX.mv 0 11 MX.done))))) 1 8 (MX.two 1 3 (MX.two 1 4 (MX.mv 1 9 (MX.mv 2 10 (MX.mv 0 11 MX.done))) 1 9 (MX.mv 1 4 (MX.mv 2 10 (MX.mv 0 11 MX.done)))) 1 9 (MX.mv 1 3 (MX.mv 1 4 (MX.mv 2 10 (MX.mv 0 11 MX.done))))))) 1 6 (MX.two 1 1 (MX.two 1 3 (MX.two 1 4 (MX.mv 1 8 (MX.mv 1 9 (MX.mv 2 10 (MX.mv 0 11 MX.done)))) 1 8 (MX.two 1 4 (MX.mv 1 9 (MX.mv 2 10 (MX.mv 0 11 MX.done))) 1 9 (MX.mv 1 4 (MX.mv 2 10 (MX.mv 0 11 MX.done))))) 1 8 (MX.two 1 3 (MX.two 1 4 (MX.mv 1 9 (MX.mv 2 10 (MX.mv 0 11 MX.done))) 1 9 (MX.mv 1 4 (MX.mv 2 10 (MX.mv 0 11 MX.done)))) 1 9 (MX.mv 1 3 (MX.mv 1 4 (MX.mv 2 10 (MX.mv 0 11 MX.done)))))) 1 8 (MX.two 1 1 (MX.two 1 3 (MX.two 1 4 (MX.mv 1 9 (MX.mv 2 10 (MX.mv 0 11 MX.done))) 1 9 (MX.mv 1 4 (MX.mv 2 10 (MX.mv 0 11 MX.done)))) 1 9 (MX.mv 1 3 (MX.mv 1 4 (MX.mv 2 10 (MX.mv 0 11 MX.done))))) 1 9 (MX.mv 1 1 (MX.mv 1 3 (MX.mv 1 4 (MX.mv 2 10 (MX.mv 0 11 MX.done)))))))))))) ?_ (by kernel_rfl) ?_; rfl) | refine Drawn.quiet (by kernel_rfl) ?_) | refine dloadE_map (([] : List ByteArray)) ?_ ?_ | refine dcell_ok rfl ?_ | refine AppC.new ?_))
  all_goals try ((conv => whnf); with_reducible refine Round.mark ?_)
  all_goals first | (exact of_decide_eq_true (by assumption); done) | (exact lt_of_test (by assumption); done) | (refine Round.go (fun _ => i + 1) (sr_1 (by assumption)) (sr_2 (by assumption)) (Weak.list [(0, some 0), (1, some 1)] [] (by kernel_rfl) ?_ ?_)) | skip
  all_goals repeat' (first | exact sr_3 (by assumption) ht | exact DW.same _ rfl | exact DW.ref _ _ _ rfl | exact OW.cells rfl rfl (DWl.same rfl) | refine DWl.cons ?_ ?_ | exact DWl.nil | refine DW.int ?_ | ((conv => whnf); first | refine And.intro ?_ ?_ | trivial))
  repeat' (first | with_reducible rfl | ((conv => whnf); first | refine And.intro ?_ ?_ | (intro h; first | with_reducible exact tf_no h | with_reducible exact ft_no h | exact Bool.noConfusion h | with_reducible exact h | (have ht : true = true := h; clear ht h) | skip) | ((with_reducible refine DWl.mark ?_); repeat' (first | refine DWl.cons ?_ ?_ | exact DWl.nil | exact DW.same _ rfl | exact DW.ref _ _ _ rfl | exact DW.arr _ _ _ rfl | exact DW.sub _ _ _ _ rfl | exact DW.nilLst _ | refine DW.aggl ?_ | refine DW.tupl ?_ | refine DW.clol ?_ ?_ | refine DW.int ?_ | refine DW.bool ?_ | refine DW.str ?_)) | ((with_reducible refine ECall.mark ?_); first | refine ECall.only ?_ (fun h => nomatch h) | refine ECall.only ?_ ?_) | ((with_reducible refine Drawn.mark ?_); first | refine Drawn.quiet (by kernel_rfl) ?_) | refine dcell_ok rfl ?_ | refine AppC.new ?_))
  all_goals first | (with_reducible refine enters_mark ?_; kernel_rfl) | (with_reducible refine boolT_mark ?_; kernel_rfl) | rfl | trivial | assumption | exact Nat.le_of_ble_eq_true rfl | (show entersB _ _ = true; kernel_rfl) | exact DW.same _ rfl | exact DW.ref _ _ _ rfl | exact DW.arr _ _ _ rfl | refine DW.int ?_ | refine dvb ?_ | refine dvi ?_ | exact OW.cells rfl rfl (DWl.same rfl) | exact Nat.zero_le _ | omega | skip
  all_goals repeat' (first | refine OW.cells rfl rfl ?_ | exact DW.nilArr _ rfl | refine DWl.cons ?_ ?_ | exact DWl.nil | exact DW.same _ rfl | exact DW.ref _ _ _ rfl | exact DW.arr _ _ _ rfl | exact DW.sub _ _ _ _ rfl | exact DW.nilLst _ | refine DW.aggl ?_ | refine DW.tupl ?_ | refine DW.clol ?_ ?_)
  all_goals try ((conv => whnf); with_reducible first | refine Round.mark ?_ | refine Tells.mark ?_ | refine Retold.mark ?_)
  all_goals try first | (show (_ : Bool) = _; simp_all; done) | (show (_ : Int) < _; simp at *; omega) | (show (_ : Int) ≤ _; simp at *; omega) | (show (_ : Nat) < _; simp at *; omega) | (show (_ : Nat) ≤ _; simp at *; omega)
end Go.Proofs.YtlchjjchgebfiaaGreatDoor

/- Reads: any text. -/
namespace Go.Proofs.YtlchjjchgebfiaaGreatDoor
open Go.RowKit Go.Dl
attribute [local irreducible] Tri SCall TSem ECall Drawn DFun QSem PSem PCall GCall MCall Round Weak dloadE OW DWl Tells IntKind.wrap Retold ESem
theorem sml_nil : Sml [] := ⟨Nat.zero_le _, fun x hx => by cases hx⟩
theorem smlT_nil : SmlT ⟨[], []⟩ := ⟨sml_nil, Nat.zero_le _, fun x hx => by cases hx⟩
structure TSb (s : ByteArray) (i : TS) : Prop where
  at_ : i.at_ ≤ s.size
  head : Sml i.head
  rows : i.rows.length ≤ 4096
  all : ∀ r ∈ i.rows, Sml r
theorem tsb_t {s : ByteArray} {i : TS} (h : TSb s i) : SmlT ⟨i.head, i.rows⟩ := ⟨h.head, (by have := h.rows; show i.rows.length * 24 ≤ _; omega), h.all⟩
theorem eT_rows {s : ByteArray} {i : TS} (he : (eT s i == 0) = true) (h : (lenI i.head == 0) = false) : i.rows.length + 1 ≤ 4096 := by
  unfold eT at he
  cases h1 : !(rowT s i).ok with
  | true => rw [h1] at he; cases he
  | false =>
    cases h2 : lenI (rowT s i).row != lenI i.head with
    | true => rw [h1, h, h2] at he; cases he
    | false =>
      rcases Nat.lt_or_ge 4096 (i.rows.length + 1) with h3 | h3
      · rw [h1, h, h2, decide_eq_true (show (4096 : Int) < ((i.rows.length + 1 : Nat) : Int) by omega)] at he; cases he
      · exact h3
theorem readF_small {s : ByteArray} (hs : s.size ≤ 1099511627776) : ∀ (n : Nat) (i : TS), TSb s i → SmlT (readF s n i).t
  | 0, i, h => tsb_t h
  | n + 1, i, h => by
    rw [readF]
    cases decide (i.at_ < s.size) with
    | false => exact tsb_t h
    | true =>
      cases he : eT s i == 0 with
      | false => exact smlT_nil
      | true =>
        refine readF_small hs n (nextT s i) ?_
        have h1 := rowT_small (s := s) (i := i) h.at_
        unfold nextT
        cases h2 : lenI i.head == 0 with
        | true => exact ⟨h1.at_, sml_row h1 hs, h.rows, h.all⟩
        | false =>
          refine ⟨h1.at_, h.head, (by show (i.rows ++ [_]).length ≤ _; rw [List.length_append]; exact eT_rows he h2), ?_⟩
          intro r hr
          have hr : r ∈ i.rows ++ [(rowT s i).row] := hr
          rw [List.mem_append, List.mem_singleton] at hr
          rcases hr with hr | hr
          · exact h.all r hr
          · subst hr; exact sml_row h1 hs
theorem readT_small {s : ByteArray} (hs : s.size ≤ 1099511627776) : SmlT (readT s).t := by
  unfold readT
  cases s == emB with
  | true => exact smlT_nil
  | false => exact readF_small hs _ _ ⟨Nat.zero_le _, sml_nil, Nat.zero_le _, fun x hx => by cases hx⟩
attribute [local irreducible] readT
set_option maxRecDepth 20000 in
theorem reads4_D (s : ByteArray) (hs : s.size ≤ 1099511627776) : DPure Tryz.prog 4 [strV s] (bl true) := by
  refine DFun.body Tryz.func4 rfl (by kernel_rfl) ?_
  repeat' (first | with_reducible rfl | ((conv => whnf); first | refine And.intro ?_ ?_ | (intro h; first | with_reducible exact tf_no h | with_reducible exact ft_no h | exact Bool.noConfusion h | with_reducible exact h | (have ht : true = true := h; clear ht h) | skip) | ((with_reducible refine DWl.mark ?_); repeat' (first | refine DWl.cons ?_ ?_ | exact DWl.nil | exact DW.same _ rfl | exact DW.ref _ _ _ rfl | exact DW.arr _ _ _ rfl | exact DW.sub _ _ _ _ rfl | exact DW.nilLst _ | refine DW.aggl ?_ | refine DW.tupl ?_ | refine DW.clol ?_ ?_ | refine DW.int ?_ | refine DW.bool ?_ | refine DW.str ?_)) | ((with_reducible refine SCall.mark ?_); first | refine SCall.data (read17_D _ hs) rfl rfl ?_ | refine SCall.scal (read17_D _ hs) rfl rfl ?_ | refine SCall.data (read18_D _ hs) rfl rfl ?_ | refine SCall.scal (read18_D _ hs) rfl rfl ?_ | refine SCall.data (same16_D _ (readT_small hs)) rfl rfl ?_ | refine SCall.scal (same16_D _ (readT_small hs)) rfl rfl ?_ | refine SCall.data (awake10_D) rfl rfl ?_ | refine SCall.scal (awake10_D) rfl rfl ?_) | ((with_reducible refine PCall.mark ?_); first | refine PCall.mk (read17_D _ hs) rfl rfl ?_ | refine PCall.mk (read18_D _ hs) rfl rfl ?_ | refine PCall.mk (same16_D _ (readT_small hs)) rfl rfl ?_ | refine PCall.mk (awake10_D) rfl rfl ?_) | ((with_reducible refine GCall.mark ?_); first | refine GCall.data (fun _ => read17_D _ hs) rfl rfl ?_ | refine GCall.scal (fun _ => read17_D _ hs) rfl rfl ?_ | refine GCall.data (fun _ => read18_D _ hs) rfl rfl ?_ | refine GCall.scal (fun _ => read18_D _ hs) rfl rfl ?_ | refine GCall.data (fun _ => same16_D _ (readT_small hs)) rfl rfl ?_ | refine GCall.scal (fun _ => same16_D _ (readT_small hs)) rfl rfl ?_ | refine GCall.data (fun _ => awake10_D) rfl rfl ?_ | refine GCall.scal (fun _ => awake10_D) rfl rfl ?_) | ((with_reducible refine MCall.mark ?_); first | refine MCall.data (fun _ => read17_D _ hs) rfl rfl ?_ | refine MCall.plain (PCall.mk (read17_D _ hs) rfl rfl ?_) | refine MCall.data (fun _ => read18_D _ hs) rfl rfl ?_ | refine MCall.plain (PCall.mk (read18_D _ hs) rfl rfl ?_) | refine MCall.data (fun _ => same16_D _ (readT_small hs)) rfl rfl ?_ | refine MCall.plain (PCall.mk (same16_D _ (readT_small hs)) rfl rfl ?_) | refine MCall.data (fun _ => awake10_D) rfl rfl ?_ | refine MCall.plain (PCall.mk (awake10_D) rfl rfl ?_)) | ((with_reducible refine ECall.mark ?_); first | refine ECall.only ?_ (fun h => nomatch h) | refine ECall.only ?_ ?_) | ((with_reducible refine Drawn.mark ?_); first | refine Drawn.quiet (by kernel_rfl) ?_) | refine dcell_ok rfl ?_ | refine AppC.new ?_))
  all_goals first | (with_reducible refine enters_mark ?_; kernel_rfl) | (with_reducible refine boolT_mark ?_; kernel_rfl) | rfl | trivial | assumption | exact Nat.le_of_ble_eq_true rfl | (show entersB _ _ = true; kernel_rfl) | exact DW.same _ rfl | exact DW.ref _ _ _ rfl | exact DW.arr _ _ _ rfl | refine DW.int ?_ | refine dvb ?_ | refine dvi ?_ | exact OW.cells rfl rfl (DWl.same rfl) | exact Nat.zero_le _ | omega | skip
  all_goals repeat' (first | refine OW.cells rfl rfl ?_ | exact DW.nilArr _ rfl | refine DWl.cons ?_ ?_ | exact DWl.nil | exact DW.same _ rfl | exact DW.ref _ _ _ rfl | exact DW.arr _ _ _ rfl | exact DW.sub _ _ _ _ rfl | exact DW.nilLst _ | refine DW.aggl ?_ | refine DW.tupl ?_ | refine DW.clol ?_ ?_)
  all_goals try ((conv => whnf); with_reducible first | refine Round.mark ?_ | refine Tells.mark ?_ | refine Retold.mark ?_)
  all_goals try first | (show (_ : Bool) = _; simp_all; done) | (show (_ : Int) < _; simp at *; omega) | (show (_ : Int) ≤ _; simp at *; omega) | (show (_ : Nat) < _; simp at *; omega) | (show (_ : Nat) ≤ _; simp at *; omega)
end Go.Proofs.YtlchjjchgebfiaaGreatDoor
