/- An alarm read: the program's. -/
import Derived.Test.YtphgcgggbbcjgaaDoorN
namespace Go.Proofs.YtphgcgggbbcjgaaDoor
open Go.RowKit Go.Dl
attribute [local irreducible] Tri SCall DFun QSem PSem PCall GCall MCall Round Weak dloadE OW DWl Tells IntKind.wrap Retold ESem

def numOf (w : ByteArray) : Option Int := match Lib.parseIntB 64 w.data.toList with
  | .ok v => some v
  | _ => none
theorem parse_ok {w : ByteArray} {v : Int} (hs : w.size ≤ 281474976710656) (h : numOf w = some v) : DPure Tryd.prog 36 [.v (.string w), int1 10, int1 64] (.tup [int1 v, .v .nilIface]) := by
  have := parse36_D w hs
  unfold parseP at this
  unfold numOf at h
  cases e : Lib.parseIntB 64 w.data.toList with
  | ok u => rw [e] at this h; cases h; exact this
  | _ => rw [e] at h; cases h
theorem parse_no {w : ByteArray} (hs : w.size ≤ 281474976710656) (h : numOf w = none) : ∃ x, DPure Tryd.prog 36 [.v (.string w), int1 10, int1 64] (.tup [int1 x, .ifc 101 .dead]) := by
  have := parse36_D w hs
  unfold parseP at this
  unfold numOf at h
  cases e : Lib.parseIntB 64 w.data.toList with
  | ok u => rw [e] at h; cases h
  | _ => rw [e] at this; exact ⟨_, this⟩
theorem strsRow (l : List ByteArray) : ∀ r ∈ l.map strD, r.length = 1 ∧ r.all isData1 = true := by
  intro r hr
  obtain ⟨x, _, rfl⟩ := List.mem_map.1 hr
  exact ⟨rfl, rfl⟩
def ws4 : List ByteArray := [⟨#[97, 98, 111, 118, 101]⟩, ⟨#[98, 101, 108, 111, 119]⟩, ⟨#[111, 117, 116, 115, 105, 100, 101]⟩, ⟨#[99, 104, 97, 110, 103, 101]⟩]
def kindW (w : ByteArray) : Int := IntKind.i64.wrap (1 + idxS w ws4 0)
def kindK (s : ByteArray) (k : Nat) : Int := if k = 0 then 0 else kindW ((wordsB s).getD 0 ByteArray.empty)
def numsK (s : ByteArray) (k : Nat) : List Int := ((wordsB s).take k).filterMap numOf
theorem nums_some {s : ByteArray} {k : Nat} {v : Int} (h : k < (wordsB s).length) (e : numOf ((wordsB s).getD k ByteArray.empty) = some v) : numsK s (k + 1) = numsK s k ++ [v] := by
  unfold numsK
  rw [take_succ (d := ByteArray.empty) h, List.filterMap_append, List.filterMap_cons, e]; rfl
theorem nums_none {s : ByteArray} {k : Nat} (h : k < (wordsB s).length) (e : numOf ((wordsB s).getD k ByteArray.empty) = none) : numsK s (k + 1) = numsK s k := by
  unfold numsK
  rw [take_succ (d := ByteArray.empty) h, List.filterMap_append, List.filterMap_cons, e]; simp
theorem nums_len (s : ByteArray) (k : Nat) : (numsK s k).length ≤ k := by
  unfold numsK
  have := List.length_filterMap_le numOf ((wordsB s).take k)
  rw [List.length_take] at this
  omega
def rowI (l : List Int) : List DV := l.map int1
theorem rowI_len (l : List Int) : (rowI l).length = l.length := by simp [rowI]
theorem rowI_all (l : List Int) : (rowI l).all noId1 = true := by simp [rowI, int1, noId1]
theorem rowI_push (l : List Int) (x : Int) : (rowI l).take (l.length * 1) ++ [int1 x] = rowI (l ++ [x]) := by
  rw [List.take_of_length_le (by rw [rowI_len]; omega)]; simp [rowI]
theorem rowI_zero : rowI [] = [] := rfl
def al0 : Al := ⟨0, 0, 0, 0⟩
def parSt (s : ByteArray) (i : Nat × Int × List Int) : St := ⟨0, tmOf [(0, .v (.string s)), (2, .ref 0 0), (4, .arr 1 i.2.2.length), (5, int1 i.2.1), (12, strs (wordsB s)), (13, int1 ((wordsB s).map strD).length), (14, int1 i.1)], .of [(0, ⟨23, 4, alD al0⟩), (1, ⟨2, 1, rowI i.2.2⟩)] 2⟩
/-- The alarm that the kind and the numbers make. -/
def madeA (k : Int) (l : List Int) : Al := if k = 1 ∨ k = 4 then ⟨k, l.getD 1 0, l.getD 0 0, l.getD 2 0⟩ else ⟨if k = 2 ∨ k = 3 then k else 0, l.getD 0 0, l.getD 1 0, l.getD 2 0⟩
def parseK (s : ByteArray) (k : Int) (l : List Int) : Al × Int := if l.length = 3 then (if textT (madeA k l) = s then (madeA k l, 0) else (al0, 20)) else (al0, 20)
def parseT (s : ByteArray) : Al × Int := parseK s (kindK s (wordsB s).length) (numsK s (wordsB s).length)
theorem kind_zero (s : ByteArray) : (0 : Int) = kindK s 0 := rfl
theorem nums_zero (s : ByteArray) : [] = numsK s 0 := rfl
theorem kind_first (s : ByteArray) : kindW ((wordsB s).getD 0 ByteArray.empty) = kindK s 1 := rfl
theorem kind_next {s : ByteArray} {k : Nat} (h : 0 < k) : kindK s (k + 1) = kindK s k := by unfold kindK; rw [if_neg (by omega), if_neg (by omega)]
theorem word_size {s : ByteArray} {k : Nat} (h : k < (wordsB s).length) (hs : s.size < 4294967281) : ((wordsB s).getD k ByteArray.empty).size ≤ 281474976710656 := by
  have hm : (wordsB s).getD k ByteArray.empty ∈ wordsB s := by rw [List.getD_eq_getElem?_getD, List.getElem?_eq_getElem h]; exact List.getElem_mem h
  have := words_size _ _ _ _ _ hm
  omega
theorem kindW_eq (w : ByteArray) : IntKind.i64.wrap (1 + idxS w ws4 0) = kindW w := rfl
theorem words_le (s : ByteArray) : (wordsB s).length ≤ s.size + 1 := by
  rw [words_len]
  have := Lib.countB_le spaceB (by decide) s.size s (Nat.le_refl _)
  omega
def ParI (s : ByteArray) (i : Nat × Int × List Int) : Prop := i.1 ≤ (wordsB s).length ∧ i.2.1 = kindK s i.1 ∧ i.2.2 = numsK s i.1
theorem par_len {s : ByteArray} {i : Nat × Int × List Int} (hs : s.size < 4294967281) (hi : ParI s i) : i.2.2.length ≤ 4294967281 := by
  rw [hi.2.2]
  have h1 := nums_len s i.1
  have h2 := words_le s
  have h3 := hi.1
  omega
theorem nums_some' {s : ByteArray} {i : Nat × Int × List Int} {v : Int} (hi : ParI s i) (hlt : i.1 < (wordsB s).length) (e : numOf ((wordsB s).getD ((i.1 : Nat) : Int).toNat ByteArray.empty) = some v) : numsK s (i.1 + 1) = i.2.2 ++ [v] := by
  rw [hi.2.2]; exact nums_some hlt e
theorem nums_none' {s : ByteArray} {i : Nat × Int × List Int} (hi : ParI s i) (hlt : i.1 < (wordsB s).length) (e : numOf ((wordsB s).getD ((i.1 : Nat) : Int).toNat ByteArray.empty) = none) : numsK s (i.1 + 1) = i.2.2 := by
  rw [hi.2.2]; exact nums_none hlt e
theorem len3 {n : Nat} (h : ((n : Int) != 3) = true) : ¬ n = 3 := by simp at h; omega
theorem len3' {n : Nat} (h : ((n : Int) != 3) = false) : n = 3 := by simp at h; omega
theorem made1 {k x y z : Int} (h : (k == 1) = true) : madeA k [x, y, z] = ⟨1, y, x, z⟩ := by
  have h := eq_of_beq h
  subst h; rfl
theorem made2 {k x y z : Int} (h : (k == 2) = true) : madeA k [x, y, z] = ⟨2, x, y, z⟩ := by
  have h := eq_of_beq h
  subst h; rfl
theorem made3 {k x y z : Int} (h : (k == 3) = true) : madeA k [x, y, z] = ⟨3, x, y, z⟩ := by
  have h := eq_of_beq h
  subst h; rfl
theorem made4 {k x y z : Int} (h : (k == 4) = true) : madeA k [x, y, z] = ⟨4, y, x, z⟩ := by
  have h := eq_of_beq h
  subst h; rfl
theorem made0 {k x y z : Int} (h1 : (k == 1) = false) (h2 : (k == 2) = false) (h3 : (k == 3) = false) (h4 : (k == 4) = false) : madeA k [x, y, z] = ⟨0, x, y, z⟩ := by
  simp only [beq_eq_false_iff_ne, ne_eq] at h1 h2 h3 h4
  unfold madeA
  rw [if_neg (by omega), if_neg (by omega)]; rfl
theorem ba_eq {a b : ByteArray} : (a == b) = true ↔ a = b := by
  obtain ⟨a⟩ := a
  obtain ⟨b⟩ := b
  show (a == b) = true ↔ _
  simp
theorem ba_ne {a b : ByteArray} (h : (a != b) = true) : ¬ a = b := fun e => by
  have : (a == b) = true := ba_eq.2 e
  simp [bne, this] at h
theorem ba_eq' {a b : ByteArray} (h : (a != b) = false) : a = b := ba_eq.1 (by simpa [bne] using h)
theorem pk_err {s : ByteArray} {k x y z : Int} {A : Al} (hm : madeA k [x, y, z] = A) (h : (textT A != s) = true) : parseK s k [x, y, z] = (al0, 20) := by
  rw [parseK, if_pos (show [x, y, z].length = 3 from rfl), hm, if_neg (ba_ne h)]
theorem pk_ok {s : ByteArray} {k x y z : Int} {A : Al} (hm : madeA k [x, y, z] = A) (h : (textT A != s) = false) : parseK s k [x, y, z] = (A, 0) := by
  rw [parseK, if_pos (show [x, y, z].length = 3 from rfl), hm, if_pos (ba_eq' h)]
set_option maxRecDepth 20000 in
theorem ri_b1 (P : List Int) : P.length * Tryd.prog.types[2].size ≤ (rowI P).length := by
  show P.length * 1 ≤ _
  rw [rowI_len]; omega
set_option maxRecDepth 20000 in
theorem ri_b2 {P : List Int} (h : P.length ≤ 4294967281) : (P.length + 1) * Tryd.prog.types[2].bytes ≤ 140737488355328 := by
  show (P.length + 1) * 8 ≤ _
  omega
theorem ri_b3 {P : List Int} (h : P.length ≤ 4294967281) : P.length + 1 ≤ maxLen := by simp only [maxLen]; omega
theorem pushI (P : List Int) (x : Int) : P.length + 1 = (P ++ [x]).length := by simp
theorem par0 {s : ByteArray} {i : Nat × Int × List Int} {L : List Int} (hi : ParI s i) (hlt : i.1 < (wordsB s).length) (h0 : ((i.1 : Int) == 0) = true) (hL : numsK s (i.1 + 1) = L) : ParI s (i.1 + 1, kindW ((wordsB s).getD ((i.1 : Nat) : Int).toNat ByteArray.empty), L) := by
  have h0 : i.1 = 0 := by have := eq_of_beq h0; omega
  refine ⟨hlt, ?_, hL.symm⟩
  simp only [h0]
  exact kind_first s
theorem par1 {s : ByteArray} {i : Nat × Int × List Int} {L : List Int} (hi : ParI s i) (hlt : i.1 < (wordsB s).length) (h0 : ((i.1 : Int) == 0) = false) (hL : numsK s (i.1 + 1) = L) : ParI s (i.1 + 1, i.2.1, L) := by
  have h0 : 0 < i.1 := by simp at h0; omega
  refine ⟨hlt, ?_, hL.symm⟩
  simp only [kind_next h0]
  exact hi.2.1
attribute [local irreducible] numsK kindK kindW textT madeA
set_option maxRecDepth 20000 in
theorem parse19_D (s : ByteArray) (hs : s.size < 4294967281) : DPure Tryd.prog 19 [.v (.string s)] (.tup [.agg (alD (parseT s).1), int1 (parseT s).2]) := by
  have hsp : DPure Tryd.prog 34 [.v (.string s), .v (.string spaceB)] (strs (wordsB s)) := split34_D s hs
  refine DFun.data (DFun.body Tryd.func19 rfl (by kernel_rfl) ?_)
  repeat' (first | with_reducible rfl | ((conv => whnf); first | refine And.intro ?_ ?_ | (intro h; first | exact Bool.noConfusion h | with_reducible exact h | (have ht : true = true := h; clear ht h) | skip) | ((with_reducible refine DWl.mark ?_); repeat' (first | refine DWl.cons ?_ ?_ | exact DWl.nil | exact DW.same _ rfl | exact DW.ref _ _ _ rfl | exact DW.arr _ _ _ rfl | exact DW.sub _ _ _ _ rfl | exact DW.nilLst _ | refine DW.aggl ?_ | refine DW.tupl ?_ | refine DW.clol ?_ ?_ | refine DW.int ?_ | refine DW.bool ?_ | refine DW.str ?_)) | ((with_reducible refine SCall.mark ?_); first | refine SCall.data (hsp) rfl rfl ?_ | refine SCall.scal (hsp) rfl rfl ?_) | ((with_reducible refine PCall.mark ?_); first | refine PCall.mk (hsp) rfl rfl ?_) | ((with_reducible refine GCall.mark ?_); first | refine GCall.data (fun _ => hsp) rfl rfl ?_ | refine GCall.scal (fun _ => hsp) rfl rfl ?_) | ((with_reducible refine MCall.mark ?_); first | refine MCall.data (fun _ => hsp) rfl rfl ?_ | refine MCall.plain (PCall.mk (hsp) rfl rfl ?_)) | ((with_reducible refine Tri.mark ?_); first | refine Tri.loop (parSt s) (ParI s) (fun i => (wordsB s).length - i.1) (0, 0, []) (by kernel_rfl) (Weak.list [(0, some 0), (1, none)] [] (by kernel_rfl) ?_ ?_) ?_ ?_) | refine dcell_ok rfl ?_ | refine AppC.new ?_))
  all_goals first | (with_reducible refine enters_mark ?_; kernel_rfl) | (with_reducible refine boolT_mark ?_; kernel_rfl) | rfl | trivial | assumption | exact Nat.le_of_ble_eq_true rfl | (show entersB _ _ = true; kernel_rfl) | exact DW.same _ rfl | exact DW.ref _ _ _ rfl | exact DW.arr _ _ _ rfl | refine DW.int ?_ | refine dvb ?_ | refine dvi ?_ | exact OW.cells rfl rfl (DWl.same rfl) | exact Nat.zero_le _ | omega | skip
  all_goals repeat' (first | refine OW.cells rfl rfl ?_ | exact DW.nilArr _ rfl | refine DWl.cons ?_ ?_ | exact DWl.nil | exact DW.same _ rfl | exact DW.ref _ _ _ rfl | exact DW.arr _ _ _ rfl | exact DW.sub _ _ _ _ rfl | exact DW.nilLst _ | refine DW.aggl ?_ | refine DW.tupl ?_ | refine DW.clol ?_ ?_)
  all_goals try ((conv => whnf); with_reducible first | refine Round.mark ?_ | refine Tells.mark ?_ | refine Retold.mark ?_)
  all_goals try first | (show (_ : Bool) = _; simp_all; done) | (show (_ : Int) < _; simp at *; omega) | (show (_ : Int) ≤ _; simp at *; omega) | (show (_ : Nat) < _; simp at *; omega) | (show (_ : Nat) ≤ _; simp at *; omega)
  · exact kind_zero s
  · exact nums_zero s
  · rename_i i hi
    have hlt := lt_of_test h
    have hw := word_size hlt hs
    have hw9 : (wordsB s).length ≤ 9223372036854775807 := by have := words_le s; omega
    have hlt' : ((i.1 : Nat) : Int).toNat < (wordsB s).length := hlt
    have ew : ((i.1 : Nat) : Int).toNat = i.1 := Int.toNat_natCast _
    have hix : ∀ w, DPure Tryd.prog 35 [strs ws4, .v (.string w)] (int1 (idxS w ws4 0)) := fun w => index35_D ws4 w
    cases hn : numOf ((wordsB s).getD ((i.1 : Nat) : Int).toNat ByteArray.empty) with
    | some v =>
      have hp := parse_ok (by rw [ew]; exact hw) hn
      repeat' (first | with_reducible rfl | ((conv => whnf); first | refine And.intro ?_ ?_ | (intro h; first | exact Bool.noConfusion h | with_reducible exact h | (have ht : true = true := h; clear ht h) | skip) | ((with_reducible refine DWl.mark ?_); repeat' (first | refine DWl.cons ?_ ?_ | exact DWl.nil | exact DW.same _ rfl | exact DW.ref _ _ _ rfl | exact DW.arr _ _ _ rfl | exact DW.sub _ _ _ _ rfl | exact DW.nilLst _ | refine DW.aggl ?_ | refine DW.tupl ?_ | refine DW.clol ?_ ?_ | exact DW.pubM (l := ws4) rfl rfl rfl rfl (strsRow ws4) rfl | refine DW.int ?_ | refine DW.bool ?_ | refine DW.str ?_)) | ((with_reducible refine SCall.mark ?_); first | refine SCall.data (hp) rfl rfl ?_ | refine SCall.scal (hp) rfl rfl ?_ | (refine SCall.scalT (hix ((wordsB s).getD ((i.1 : Nat) : Int).toNat ByteArray.empty)) ?dwq rfl ?_; case dwq => (repeat' (first | refine DWl.cons ?_ ?_ | exact DWl.nil | exact DW.same _ rfl | exact DW.ref _ _ _ rfl | exact DW.arr _ _ _ rfl | exact DW.sub _ _ _ _ rfl | exact DW.nilLst _ | refine DW.aggl ?_ | refine DW.tupl ?_ | refine DW.clol ?_ ?_ | exact DW.pubM (l := ws4) rfl rfl rfl rfl (strsRow ws4) rfl | refine DW.int ?_ | refine DW.bool ?_ | refine DW.str ?_)))) | ((with_reducible refine PCall.mark ?_); first | refine PCall.mk (hp) rfl rfl ?_) | ((with_reducible refine GCall.mark ?_); first | refine GCall.data (fun _ => hp) rfl rfl ?_ | refine GCall.scal (fun _ => hp) rfl rfl ?_ | (refine GCall.scalT (fun _ => hix ((wordsB s).getD ((i.1 : Nat) : Int).toNat ByteArray.empty)) ?dwq rfl ?_; case dwq => (intro _; repeat' (first | refine DWl.cons ?_ ?_ | exact DWl.nil | exact DW.same _ rfl | exact DW.ref _ _ _ rfl | exact DW.arr _ _ _ rfl | exact DW.sub _ _ _ _ rfl | exact DW.nilLst _ | refine DW.aggl ?_ | refine DW.tupl ?_ | refine DW.clol ?_ ?_ | exact DW.pubM (l := ws4) rfl rfl rfl rfl (strsRow ws4) rfl | refine DW.int ?_ | refine DW.bool ?_ | refine DW.str ?_)))) | ((with_reducible refine MCall.mark ?_); first | refine MCall.data (fun _ => hp) rfl rfl ?_ | refine MCall.plain (PCall.mk (hp) rfl rfl ?_)) | ((with_reducible refine ex_mark ?_); first | refine dq_nilEq Tryd.underlying68 rfl ?_ | refine dq_errEq Tryd.underlying68 rfl ?_) | refine dloadE_map (ByteArray.empty) ?_ ?_ | refine dcell_ok rfl ?_ | refine AppC.new ?_))
      all_goals try ((conv => whnf); with_reducible refine Round.mark ?_)
      all_goals try first | (with_reducible exact hlt') | ((with_reducible show (_ : Nat) < List.length _); exact Nat.le_of_ble_eq_true rfl) | ((with_reducible show Option.isSome (slElem _ _) = true); kernel_rfl) | ((with_reducible show slElem _ _ = some _); kernel_rfl) | ((with_reducible refine enters_mark ?_); kernel_rfl) | (with_reducible assumption) | ((with_reducible show List.all _ DV.one = true); rfl) | ((with_reducible show (_ : Nat) = _); rfl) | ((with_reducible show (_ == true) = true); simpa using h) | ((with_reducible show (_ : Nat) ≤ _); exact Nat.le_of_ble_eq_true rfl) | ((with_reducible show (_ : Int) ≤ _); first | omega | decide) | ((with_reducible show (_ : Int) < _); first | omega | decide) | ((with_reducible show (_ : Nat) < _); omega) | ((with_reducible show (_ : Nat) ≤ _); omega)
      · exact ri_b1 _
      · exact ri_b2 (par_len hs hi)
      · exact ri_b3 (par_len hs hi)
      · have h0 := h
        refine Round.go (fun _ => (i.1 + 1, kindW ((wordsB s).getD ((i.1 : Nat) : Int).toNat ByteArray.empty), i.2.2 ++ [v])) (par0 hi hlt h0 (nums_some' hi hlt hn)) (by show (wordsB s).length - (i.1 + 1) < (wordsB s).length - i.1; omega) (Weak.list [(0, some 0), (1, some 4)] [] (by kernel_rfl) ?_ ?_)
        · repeat' (first | exact wsucc hlt hw9 | exact kindW_eq _ | exact DWl.eq (rfl : alD al0 = alD al0) (alD_all _) | exact DWl.eq (rowI_push i.2.2 v) (rowI_all _) | exact pushI _ _ | exact DW.same _ rfl | exact DW.ref _ _ _ rfl | exact DW.arr _ _ _ rfl | exact OW.cells rfl rfl (DWl.same rfl) | refine OW.cells rfl rfl ?_ | refine DWl.cons ?_ ?_ | exact DWl.nil | exact DW.nilArr _ rfl | exact DW.nilLst _ | refine DW.clol ?_ ?_ | refine DW.aggl ?_ | refine DW.tupl ?_ | refine DW.int ?_ | refine DW.bool ?_ | refine DW.str ?_ | refine DW.arrE rfl ?_ | ((conv => whnf); first | refine And.intro ?_ ?_ | trivial))
        · repeat' (first | exact wsucc hlt hw9 | exact kindW_eq _ | exact DWl.eq (rfl : alD al0 = alD al0) (alD_all _) | exact DWl.eq (rowI_push i.2.2 v) (rowI_all _) | exact pushI _ _ | exact DW.same _ rfl | exact DW.ref _ _ _ rfl | exact DW.arr _ _ _ rfl | exact OW.cells rfl rfl (DWl.same rfl) | refine OW.cells rfl rfl ?_ | refine DWl.cons ?_ ?_ | exact DWl.nil | exact DW.nilArr _ rfl | exact DW.nilLst _ | refine DW.clol ?_ ?_ | refine DW.aggl ?_ | refine DW.tupl ?_ | refine DW.int ?_ | refine DW.bool ?_ | refine DW.str ?_ | refine DW.arrE rfl ?_ | ((conv => whnf); first | refine And.intro ?_ ?_ | trivial))
      · exact ri_b1 _
      · exact ri_b2 (par_len hs hi)
      · exact ri_b3 (par_len hs hi)
      · have h0 := h
        refine Round.go (fun _ => (i.1 + 1, i.2.1, i.2.2 ++ [v])) (par1 hi hlt h0 (nums_some' hi hlt hn)) (by show (wordsB s).length - (i.1 + 1) < (wordsB s).length - i.1; omega) (Weak.list [(0, some 0), (1, some 3)] [] (by kernel_rfl) ?_ ?_)
        · repeat' (first | exact wsucc hlt hw9 | exact kindW_eq _ | exact DWl.eq (rfl : alD al0 = alD al0) (alD_all _) | exact DWl.eq (rowI_push i.2.2 v) (rowI_all _) | exact pushI _ _ | exact DW.same _ rfl | exact DW.ref _ _ _ rfl | exact DW.arr _ _ _ rfl | exact OW.cells rfl rfl (DWl.same rfl) | refine OW.cells rfl rfl ?_ | refine DWl.cons ?_ ?_ | exact DWl.nil | exact DW.nilArr _ rfl | exact DW.nilLst _ | refine DW.clol ?_ ?_ | refine DW.aggl ?_ | refine DW.tupl ?_ | refine DW.int ?_ | refine DW.bool ?_ | refine DW.str ?_ | refine DW.arrE rfl ?_ | ((conv => whnf); first | refine And.intro ?_ ?_ | trivial))
        · repeat' (first | exact wsucc hlt hw9 | exact kindW_eq _ | exact DWl.eq (rfl : alD al0 = alD al0) (alD_all _) | exact DWl.eq (rowI_push i.2.2 v) (rowI_all _) | exact pushI _ _ | exact DW.same _ rfl | exact DW.ref _ _ _ rfl | exact DW.arr _ _ _ rfl | exact OW.cells rfl rfl (DWl.same rfl) | refine OW.cells rfl rfl ?_ | refine DWl.cons ?_ ?_ | exact DWl.nil | exact DW.nilArr _ rfl | exact DW.nilLst _ | refine DW.clol ?_ ?_ | refine DW.aggl ?_ | refine DW.tupl ?_ | refine DW.int ?_ | refine DW.bool ?_ | refine DW.str ?_ | refine DW.arrE rfl ?_ | ((conv => whnf); first | refine And.intro ?_ ?_ | trivial))
    | none =>
      obtain ⟨x, hp⟩ := parse_no (by rw [ew]; exact hw) hn
      repeat' (first | with_reducible rfl | ((conv => whnf); first | refine And.intro ?_ ?_ | (intro h; first | exact Bool.noConfusion h | with_reducible exact h | (have ht : true = true := h; clear ht h) | skip) | ((with_reducible refine DWl.mark ?_); repeat' (first | refine DWl.cons ?_ ?_ | exact DWl.nil | exact DW.same _ rfl | exact DW.ref _ _ _ rfl | exact DW.arr _ _ _ rfl | exact DW.sub _ _ _ _ rfl | exact DW.nilLst _ | refine DW.aggl ?_ | refine DW.tupl ?_ | refine DW.clol ?_ ?_ | exact DW.pubM (l := ws4) rfl rfl rfl rfl (strsRow ws4) rfl | refine DW.int ?_ | refine DW.bool ?_ | refine DW.str ?_)) | ((with_reducible refine SCall.mark ?_); first | refine SCall.data (hp) rfl rfl ?_ | refine SCall.scal (hp) rfl rfl ?_ | (refine SCall.scalT (hix ((wordsB s).getD ((i.1 : Nat) : Int).toNat ByteArray.empty)) ?dwq rfl ?_; case dwq => (repeat' (first | refine DWl.cons ?_ ?_ | exact DWl.nil | exact DW.same _ rfl | exact DW.ref _ _ _ rfl | exact DW.arr _ _ _ rfl | exact DW.sub _ _ _ _ rfl | exact DW.nilLst _ | refine DW.aggl ?_ | refine DW.tupl ?_ | refine DW.clol ?_ ?_ | exact DW.pubM (l := ws4) rfl rfl rfl rfl (strsRow ws4) rfl | refine DW.int ?_ | refine DW.bool ?_ | refine DW.str ?_)))) | ((with_reducible refine PCall.mark ?_); first | refine PCall.mk (hp) rfl rfl ?_) | ((with_reducible refine GCall.mark ?_); first | refine GCall.data (fun _ => hp) rfl rfl ?_ | refine GCall.scal (fun _ => hp) rfl rfl ?_ | (refine GCall.scalT (fun _ => hix ((wordsB s).getD ((i.1 : Nat) : Int).toNat ByteArray.empty)) ?dwq rfl ?_; case dwq => (intro _; repeat' (first | refine DWl.cons ?_ ?_ | exact DWl.nil | exact DW.same _ rfl | exact DW.ref _ _ _ rfl | exact DW.arr _ _ _ rfl | exact DW.sub _ _ _ _ rfl | exact DW.nilLst _ | refine DW.aggl ?_ | refine DW.tupl ?_ | refine DW.clol ?_ ?_ | exact DW.pubM (l := ws4) rfl rfl rfl rfl (strsRow ws4) rfl | refine DW.int ?_ | refine DW.bool ?_ | refine DW.str ?_)))) | ((with_reducible refine MCall.mark ?_); first | refine MCall.data (fun _ => hp) rfl rfl ?_ | refine MCall.plain (PCall.mk (hp) rfl rfl ?_)) | ((with_reducible refine ex_mark ?_); first | refine dq_nilEq Tryd.underlying68 rfl ?_ | refine dq_errEq Tryd.underlying68 rfl ?_) | refine dloadE_map (ByteArray.empty) ?_ ?_ | refine dcell_ok rfl ?_ | refine AppC.new ?_))
      all_goals try ((conv => whnf); with_reducible refine Round.mark ?_)
      all_goals try first | (with_reducible exact hlt') | ((with_reducible show (_ : Nat) < List.length _); exact Nat.le_of_ble_eq_true rfl) | ((with_reducible show Option.isSome (slElem _ _) = true); kernel_rfl) | ((with_reducible show slElem _ _ = some _); kernel_rfl) | ((with_reducible refine enters_mark ?_); kernel_rfl) | (with_reducible assumption) | ((with_reducible show List.all _ DV.one = true); rfl) | ((with_reducible show (_ : Nat) = _); rfl) | ((with_reducible show (_ == true) = true); simpa using h) | ((with_reducible show (_ : Nat) ≤ _); exact Nat.le_of_ble_eq_true rfl) | ((with_reducible show (_ : Int) ≤ _); first | omega | decide) | ((with_reducible show (_ : Int) < _); first | omega | decide) | ((with_reducible show (_ : Nat) < _); omega) | ((with_reducible show (_ : Nat) ≤ _); omega)
      · have h0 := ‹((i.1 : Int) == 0) = true›
        refine Round.go (fun _ => (i.1 + 1, kindW ((wordsB s).getD ((i.1 : Nat) : Int).toNat ByteArray.empty), i.2.2)) (par0 hi hlt h0 (nums_none' hi hlt hn)) (by show (wordsB s).length - (i.1 + 1) < (wordsB s).length - i.1; omega) (Weak.list [(0, some 0), (1, some 1)] [] (by kernel_rfl) ?_ ?_)
        · repeat' (first | exact wsucc hlt hw9 | exact kindW_eq _ | exact DWl.eq (rfl : alD al0 = alD al0) (alD_all _) | exact DWl.eq (rfl : rowI i.2.2 = rowI i.2.2) (rowI_all _) | exact DW.same _ rfl | exact DW.ref _ _ _ rfl | exact DW.arr _ _ _ rfl | exact OW.cells rfl rfl (DWl.same rfl) | refine OW.cells rfl rfl ?_ | refine DWl.cons ?_ ?_ | exact DWl.nil | exact DW.nilArr _ rfl | exact DW.nilLst _ | refine DW.clol ?_ ?_ | refine DW.aggl ?_ | refine DW.tupl ?_ | refine DW.int ?_ | refine DW.bool ?_ | refine DW.str ?_ | refine DW.arrE rfl ?_ | ((conv => whnf); first | refine And.intro ?_ ?_ | trivial))
        · repeat' (first | exact wsucc hlt hw9 | exact kindW_eq _ | exact DWl.eq (rfl : alD al0 = alD al0) (alD_all _) | exact DWl.eq (rfl : rowI i.2.2 = rowI i.2.2) (rowI_all _) | exact DW.same _ rfl | exact DW.ref _ _ _ rfl | exact DW.arr _ _ _ rfl | exact OW.cells rfl rfl (DWl.same rfl) | refine OW.cells rfl rfl ?_ | refine DWl.cons ?_ ?_ | exact DWl.nil | exact DW.nilArr _ rfl | exact DW.nilLst _ | refine DW.clol ?_ ?_ | refine DW.aggl ?_ | refine DW.tupl ?_ | refine DW.int ?_ | refine DW.bool ?_ | refine DW.str ?_ | refine DW.arrE rfl ?_ | ((conv => whnf); first | refine And.intro ?_ ?_ | trivial))
      · have h0 := ‹((i.1 : Int) == 0) = false›
        refine Round.go (fun _ => (i.1 + 1, i.2.1, i.2.2)) (par1 hi hlt h0 (nums_none' hi hlt hn)) (by show (wordsB s).length - (i.1 + 1) < (wordsB s).length - i.1; omega) (Weak.list [(0, some 0), (1, some 1)] [] (by kernel_rfl) ?_ ?_)
        · repeat' (first | exact wsucc hlt hw9 | exact kindW_eq _ | exact DWl.eq (rfl : alD al0 = alD al0) (alD_all _) | exact DWl.eq (rfl : rowI i.2.2 = rowI i.2.2) (rowI_all _) | exact DW.same _ rfl | exact DW.ref _ _ _ rfl | exact DW.arr _ _ _ rfl | exact OW.cells rfl rfl (DWl.same rfl) | refine OW.cells rfl rfl ?_ | refine DWl.cons ?_ ?_ | exact DWl.nil | exact DW.nilArr _ rfl | exact DW.nilLst _ | refine DW.clol ?_ ?_ | refine DW.aggl ?_ | refine DW.tupl ?_ | refine DW.int ?_ | refine DW.bool ?_ | refine DW.str ?_ | refine DW.arrE rfl ?_ | ((conv => whnf); first | refine And.intro ?_ ?_ | trivial))
        · repeat' (first | exact wsucc hlt hw9 | exact kindW_eq _ | exact DWl.eq (rfl : alD al0 = alD al0) (alD_all _) | exact DWl.eq (rfl : rowI i.2.2 = rowI i.2.2) (rowI_all _) | exact DW.same _ rfl | exact DW.ref _ _ _ rfl | exact DW.arr _ _ _ rfl | exact OW.cells rfl rfl (DWl.same rfl) | refine OW.cells rfl rfl ?_ | refine DWl.cons ?_ ?_ | exact DWl.nil | exact DW.nilArr _ rfl | exact DW.nilLst _ | refine DW.clol ?_ ?_ | refine DW.aggl ?_ | refine DW.tupl ?_ | refine DW.int ?_ | refine DW.bool ?_ | refine DW.str ?_ | refine DW.arrE rfl ?_ | ((conv => whnf); first | refine And.intro ?_ ?_ | trivial))
  · rename_i i hi e0
    have hk : i.1 = (wordsB s).length := by have := ge_of_test e0; have := hi.1; omega
    have e4 : parseT s = (al0, 20) := by
      rw [parseT, ← hk, ← hi.2.1, ← hi.2.2, parseK, if_neg (len3 h)]
    exact Tells.of (r1 := .tup [.agg (alD al0), int1 20]) (by rw [e4]) (Tells.mk (DW.tupl (DWl.cons (DW.aggl (DWl.cons (DW.int rfl) (DWl.cons (DW.int rfl) (DWl.cons (DW.int rfl) (DWl.cons (DW.int rfl) DWl.nil))))) (DWl.cons (DW.int rfl) DWl.nil))))
  · rename_i i hi e0
    have hk : i.1 = (wordsB s).length := by have := ge_of_test e0; have := hi.1; omega
    have hL : i.2.2.length = 3 := len3' h
    have e4 : parseT s = parseK s i.2.1 i.2.2 := by rw [parseT, ← hk, ← hi.2.1, ← hi.2.2]
    rw [e4]
    clear e4 hk hi e0 h
    obtain ⟨k, kd, L⟩ := i
    match L, hL with
    | [x, y, z], _ =>
    repeat' (first | with_reducible rfl | ((conv => whnf); first | refine And.intro ?_ ?_ | (intro h; first | exact Bool.noConfusion h | with_reducible exact h | (have ht : true = true := h; clear ht h) | skip) | ((with_reducible refine DWl.mark ?_); repeat' (first | refine DWl.cons ?_ ?_ | exact DWl.nil | exact DW.same _ rfl | exact DW.ref _ _ _ rfl | exact DW.arr _ _ _ rfl | exact DW.sub _ _ _ _ rfl | exact DW.nilLst _ | refine DW.aggl ?_ | refine DW.tupl ?_ | refine DW.clol ?_ ?_ | refine DW.int ?_ | refine DW.bool ?_ | refine DW.str ?_)) | ((with_reducible refine SCall.mark ?_); first | refine SCall.data (text21_D ⟨1, y, x, z⟩) rfl rfl ?_ | refine SCall.scal (text21_D ⟨1, y, x, z⟩) rfl rfl ?_ | refine SCall.data (text21_D ⟨2, x, y, z⟩) rfl rfl ?_ | refine SCall.scal (text21_D ⟨2, x, y, z⟩) rfl rfl ?_ | refine SCall.data (text21_D ⟨3, x, y, z⟩) rfl rfl ?_ | refine SCall.scal (text21_D ⟨3, x, y, z⟩) rfl rfl ?_ | refine SCall.data (text21_D ⟨4, y, x, z⟩) rfl rfl ?_ | refine SCall.scal (text21_D ⟨4, y, x, z⟩) rfl rfl ?_ | refine SCall.data (text21_D ⟨0, x, y, z⟩) rfl rfl ?_ | refine SCall.scal (text21_D ⟨0, x, y, z⟩) rfl rfl ?_) | ((with_reducible refine PCall.mark ?_); first | refine PCall.mk (text21_D ⟨1, y, x, z⟩) rfl rfl ?_ | refine PCall.mk (text21_D ⟨2, x, y, z⟩) rfl rfl ?_ | refine PCall.mk (text21_D ⟨3, x, y, z⟩) rfl rfl ?_ | refine PCall.mk (text21_D ⟨4, y, x, z⟩) rfl rfl ?_ | refine PCall.mk (text21_D ⟨0, x, y, z⟩) rfl rfl ?_) | ((with_reducible refine GCall.mark ?_); first | refine GCall.data (fun _ => text21_D ⟨1, y, x, z⟩) rfl rfl ?_ | refine GCall.scal (fun _ => text21_D ⟨1, y, x, z⟩) rfl rfl ?_ | refine GCall.data (fun _ => text21_D ⟨2, x, y, z⟩) rfl rfl ?_ | refine GCall.scal (fun _ => text21_D ⟨2, x, y, z⟩) rfl rfl ?_ | refine GCall.data (fun _ => text21_D ⟨3, x, y, z⟩) rfl rfl ?_ | refine GCall.scal (fun _ => text21_D ⟨3, x, y, z⟩) rfl rfl ?_ | refine GCall.data (fun _ => text21_D ⟨4, y, x, z⟩) rfl rfl ?_ | refine GCall.scal (fun _ => text21_D ⟨4, y, x, z⟩) rfl rfl ?_ | refine GCall.data (fun _ => text21_D ⟨0, x, y, z⟩) rfl rfl ?_ | refine GCall.scal (fun _ => text21_D ⟨0, x, y, z⟩) rfl rfl ?_) | ((with_reducible refine MCall.mark ?_); first | refine MCall.data (fun _ => text21_D ⟨1, y, x, z⟩) rfl rfl ?_ | refine MCall.plain (PCall.mk (text21_D ⟨1, y, x, z⟩) rfl rfl ?_) | refine MCall.data (fun _ => text21_D ⟨2, x, y, z⟩) rfl rfl ?_ | refine MCall.plain (PCall.mk (text21_D ⟨2, x, y, z⟩) rfl rfl ?_) | refine MCall.data (fun _ => text21_D ⟨3, x, y, z⟩) rfl rfl ?_ | refine MCall.plain (PCall.mk (text21_D ⟨3, x, y, z⟩) rfl rfl ?_) | refine MCall.data (fun _ => text21_D ⟨4, y, x, z⟩) rfl rfl ?_ | refine MCall.plain (PCall.mk (text21_D ⟨4, y, x, z⟩) rfl rfl ?_) | refine MCall.data (fun _ => text21_D ⟨0, x, y, z⟩) rfl rfl ?_ | refine MCall.plain (PCall.mk (text21_D ⟨0, x, y, z⟩) rfl rfl ?_)) | ((with_reducible refine Tri.mark ?_); first | (refine Tri.movesN (id := 14) [2] [(true, 0), (true, 1), (true, 2), (true, 3), (true, 4), (true, 5), (true, 6), (true, 7), (true, 8), (true, 9), (false, 10), (false, 11)] ?_ (by kernel_rfl) ?_; rfl) | (refine Tri.movesN (id := 17) [2] [(true, 0), (true, 1), (true, 2), (true, 3), (true, 4), (true, 5), (true, 6), (false, 7), (true, 8), (false, 9), (true, 10), (false, 11)] ?_ (by kernel_rfl) ?_; rfl) | (refine Tri.movesN (id := 23) [2] [(true, 0), (true, 1), (true, 2), (true, 3), (true, 4), (true, 5), (true, 6), (false, 7), (true, 8), (false, 9), (true, 10), (false, 11)] ?_ (by kernel_rfl) ?_; rfl)) | refine dcell_ok rfl ?_ | refine AppC.new ?_))
    all_goals try ((conv => whnf); with_reducible refine Tells.mark ?_)
    all_goals try first | ((with_reducible show (_ : Nat) < List.length _); exact Nat.le_of_ble_eq_true rfl) | ((with_reducible show Option.all _ _ = true); rfl) | ((with_reducible show Option.isSome (slElem _ _) = true); kernel_rfl) | ((with_reducible show slElem _ _ = some _); kernel_rfl) | ((with_reducible refine enters_mark ?_); kernel_rfl) | (with_reducible assumption) | ((with_reducible show List.all _ DV.one = true); rfl) | ((with_reducible show (_ : Nat) = _); rfl) | ((with_reducible show (_ == true) = true); simpa using h) | ((with_reducible show (_ : Nat) ≤ _); exact Nat.le_of_ble_eq_true rfl) | ((with_reducible show (_ : Int) ≤ _); first | omega | decide) | ((with_reducible show (_ : Int) < _); first | omega | decide) | ((with_reducible show (_ : Nat) < _); omega) | ((with_reducible show (_ : Nat) ≤ _); omega)
    · exact Tells.of (r1 := .tup [.agg (alD al0), int1 20]) (by rw [show parseK s kd [x, y, z] = _ from pk_err (made1 ‹(kd == 1) = true›) h]) (Tells.mk (DW.tupl (DWl.cons (DW.aggl (DWl.cons (DW.int rfl) (DWl.cons (DW.int rfl) (DWl.cons (DW.int rfl) (DWl.cons (DW.int rfl) DWl.nil))))) (DWl.cons (DW.int rfl) DWl.nil))))
    · exact Tells.of (r1 := .tup [.agg (alD ⟨1, y, x, z⟩), int1 0]) (by rw [show parseK s kd [x, y, z] = _ from pk_ok (made1 ‹(kd == 1) = true›) h]) (Tells.mk (DW.tupl (DWl.cons (DW.aggl (DWl.cons (DW.int rfl) (DWl.cons (DW.int rfl) (DWl.cons (DW.int rfl) (DWl.cons (DW.int rfl) DWl.nil))))) (DWl.cons (DW.int rfl) DWl.nil))))
    · exact Tells.of (r1 := .tup [.agg (alD al0), int1 20]) (by rw [show parseK s kd [x, y, z] = _ from pk_err (made2 ‹(kd == 2) = true›) h]) (Tells.mk (DW.tupl (DWl.cons (DW.aggl (DWl.cons (DW.int rfl) (DWl.cons (DW.int rfl) (DWl.cons (DW.int rfl) (DWl.cons (DW.int rfl) DWl.nil))))) (DWl.cons (DW.int rfl) DWl.nil))))
    · exact Tells.of (r1 := .tup [.agg (alD ⟨2, x, y, z⟩), int1 0]) (by rw [show parseK s kd [x, y, z] = _ from pk_ok (made2 ‹(kd == 2) = true›) h]) (Tells.mk (DW.tupl (DWl.cons (DW.aggl (DWl.cons (DW.int rfl) (DWl.cons (DW.int rfl) (DWl.cons (DW.int rfl) (DWl.cons (DW.int rfl) DWl.nil))))) (DWl.cons (DW.int rfl) DWl.nil))))
    · exact Tells.of (r1 := .tup [.agg (alD al0), int1 20]) (by rw [show parseK s kd [x, y, z] = _ from pk_err (made3 ‹(kd == 3) = true›) h]) (Tells.mk (DW.tupl (DWl.cons (DW.aggl (DWl.cons (DW.int rfl) (DWl.cons (DW.int rfl) (DWl.cons (DW.int rfl) (DWl.cons (DW.int rfl) DWl.nil))))) (DWl.cons (DW.int rfl) DWl.nil))))
    · exact Tells.of (r1 := .tup [.agg (alD ⟨3, x, y, z⟩), int1 0]) (by rw [show parseK s kd [x, y, z] = _ from pk_ok (made3 ‹(kd == 3) = true›) h]) (Tells.mk (DW.tupl (DWl.cons (DW.aggl (DWl.cons (DW.int rfl) (DWl.cons (DW.int rfl) (DWl.cons (DW.int rfl) (DWl.cons (DW.int rfl) DWl.nil))))) (DWl.cons (DW.int rfl) DWl.nil))))
    · exact Tells.of (r1 := .tup [.agg (alD al0), int1 20]) (by rw [show parseK s kd [x, y, z] = _ from pk_err (made4 ‹(kd == 4) = true›) h]) (Tells.mk (DW.tupl (DWl.cons (DW.aggl (DWl.cons (DW.int rfl) (DWl.cons (DW.int rfl) (DWl.cons (DW.int rfl) (DWl.cons (DW.int rfl) DWl.nil))))) (DWl.cons (DW.int rfl) DWl.nil))))
    · exact Tells.of (r1 := .tup [.agg (alD ⟨4, y, x, z⟩), int1 0]) (by rw [show parseK s kd [x, y, z] = _ from pk_ok (made4 ‹(kd == 4) = true›) h]) (Tells.mk (DW.tupl (DWl.cons (DW.aggl (DWl.cons (DW.int rfl) (DWl.cons (DW.int rfl) (DWl.cons (DW.int rfl) (DWl.cons (DW.int rfl) DWl.nil))))) (DWl.cons (DW.int rfl) DWl.nil))))
    · exact Tells.of (r1 := .tup [.agg (alD al0), int1 20]) (by rw [show parseK s kd [x, y, z] = _ from pk_err (made0 ‹(kd == 1) = false› ‹(kd == 2) = false› ‹(kd == 3) = false› ‹(kd == 4) = false›) h]) (Tells.mk (DW.tupl (DWl.cons (DW.aggl (DWl.cons (DW.int rfl) (DWl.cons (DW.int rfl) (DWl.cons (DW.int rfl) (DWl.cons (DW.int rfl) DWl.nil))))) (DWl.cons (DW.int rfl) DWl.nil))))
    · exact Tells.of (r1 := .tup [.agg (alD ⟨0, x, y, z⟩), int1 0]) (by rw [show parseK s kd [x, y, z] = _ from pk_ok (made0 ‹(kd == 1) = false› ‹(kd == 2) = false› ‹(kd == 3) = false› ‹(kd == 4) = false›) h]) (Tells.mk (DW.tupl (DWl.cons (DW.aggl (DWl.cons (DW.int rfl) (DWl.cons (DW.int rfl) (DWl.cons (DW.int rfl) (DWl.cons (DW.int rfl) DWl.nil))))) (DWl.cons (DW.int rfl) DWl.nil))))
end Go.Proofs.YtphgcgggbbcjgaaDoor
