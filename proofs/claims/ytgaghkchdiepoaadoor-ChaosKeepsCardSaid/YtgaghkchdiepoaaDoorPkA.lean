/- What is known of the variables; the kit's contracts met: numbers written and read, a text split or cut. -/
import Derived.Test.YtgaghkchdiepoaaDoorShelf
import Derived.Test.YtgaghkchdiepoaaDoorDl28
import Derived.Stop.LaidErr
import Derived.Lib.LaidTab
import Derived.Lib.AtoiErrMem
import Derived.KernelRfl
import Derived.Test.YtgaghkchdiepoaaDoorDl29

namespace Go.Proofs.YtgaghkchdiepoaaDoor
open Go.RowKit Go.Dl

abbrev errSyn : String := "strconv.ErrSyntax"
abbrev errRan : String := "strconv.ErrRange"
/-- The table's name, as the row bears it. -/
def powN : String := ((Rows.chaosFitsRow.laid.map (·.1)).getD 2 "")
def okD (w : World) : Prop := (∃ m, w.cell? ⟨0, 0, none⟩ = some (.int .i64 m)) ∧ (∃ tp p, w.var? Tryd.prog errSyn = some #[.iface tp p]) ∧ (∃ tp p, w.var? Tryd.prog errRan = some #[.iface tp p]) ∧ Lib.TabIs Tryd.prog w powN .u64 Lib.pow10Tab
theorem var_lt {P : Program} {w : World} {n : String} {cs : Array Value} {g : Nat} (hg : P.globalNamed n = some g) (h : w.var? P n = some cs) : g < w.heap.size := by
  unfold World.var? at h
  rw [hg] at h
  rcases Nat.lt_or_ge g w.heap.size with h' | h'
  · exact h'
  · simp [Array.getElem?_eq_none h'] at h
theorem gSyn : Tryd.prog.globalNamed errSyn = some 1 := by kernel_rfl
theorem gRan : Tryd.prog.globalNamed errRan = some 2 := by kernel_rfl
theorem gPow : Tryd.prog.globalNamed powN = some 3 := by kernel_rfl
theorem okD_mono {w0 w : World} (hb : Below w0.heap.size w0 w) (h : okD w0) : okD w := by
  obtain ⟨⟨m, h1⟩, ⟨t2, p2, h2⟩, ⟨t3, p3, h3⟩, h4⟩ := h
  refine ⟨⟨m, ?_⟩, ⟨t2, p2, ?_⟩, ⟨t3, p3, ?_⟩, ?_⟩
  · rw [World.cell?_of_block (w := w0) (a := ⟨0, 0, none⟩) (hb.block 0 (World.block_lt_of_cell? _ _ h1))]; exact h1
  · exact var?_below hb gSyn (var_lt gSyn h2) h2
  · exact var?_below hb gRan (var_lt gRan h3) h3
  · exact var?_below hb gPow (var_lt gPow h4) h4
instance : Inhabited GlobS := ⟨⟨okD, okD_mono, false⟩⟩
theorem gok_iff {w : World} : Gok w ↔ okD w := Iff.rfl

def str (l : List UInt8) : DV := .v (.string ⟨l.toArray⟩)
def int1 (x : Int) : DV := .v (.int .i64 x)
theorem below_grow (w : World) (k : Nat) (os : Array Obj) : Below w.heap.size w (Sort.grow (w.drewN k) os) := by
  refine ⟨rfl, rfl, rfl, by simp [Sort.grow, World.drewN], fun i hi => ?_⟩
  simp [Sort.grow, World.drewN, Array.getElem?_append, hi]
theorem below_drew (w : World) (k : Nat) : Below w.heap.size w (w.drewN k) := ⟨rfl, rfl, rfl, Nat.le_refl _, fun _ _ => rfl⟩
def bs (l : List UInt8) : ByteArray := ⟨l.toArray⟩
def numB (n : Int) : ByteArray := bs (Lib.itoa n)
theorem itoa57_D (n : Int) (h0 : -9223372036854775808 ≤ n) (h1 : n ≤ 9223372036854775807) : DPure Tryd.prog 57 [int1 n] (.v (.string (numB n))) :=
  DPure.kit (args := [.int .i64 n]) fun w hg => (Any.strconv_Itoa Tryd.laysItoa n h0 h1 w hg.2.2.2).mono fun e w' ⟨he, k, os, hw⟩ => by
    subst hw
    exact ⟨_, he, below_grow w k os, fun F hF => .data (.v _ rfl)⟩
theorem below_bytes (w : World) (t : TypeId) (s : ByteArray) : Below w.heap.size w (Lib.bytesWorld w t s) := Lib.bytesWorld_below w t s
/-- What strconv.Atoi gives: a number; an error comes with 0, or with the end of the range. -/
def atoiP (s : ByteArray) : DV := match Lib.atoiAll s.data.toList with
  | .ok v => .tup [int1 v, .v .nilIface]
  | .range => .tup [int1 (Lib.atoiSat s.data.toList), .ifc 113 .dead]
  | _ => .tup [int1 0, .ifc 113 .dead]
theorem rv_err {w : World} {F : Nat → Prop} {β : Beta} {x : Int} {v : Value} {t : TypeId} : RV w F β (.tup [int1 x, .ifc t .dead]) (.tuple #[.int .i64 x, .iface t v]) :=
  .tup _ [.int .i64 x, .iface t v] rfl (fun j d y h1 h2 => by
    match j, h1, h2 with
    | 0, h1, h2 => cases h1; cases h2; exact .data (.v _ rfl)
    | 1, h1, h2 => cases h1; cases h2; exact .ifc _ _ _ (.dead _))
theorem rv_num {w : World} {F : Nat → Prop} {β : Beta} {x : Int} : RV w F β (.tup [int1 x, .v .nilIface]) (.tuple #[.int .i64 x, .nilIface]) :=
  .tup _ [.int .i64 x, .nilIface] rfl (fun j d y h1 h2 => by
    match j, h1, h2 with
    | 0, h1, h2 => cases h1; cases h2; exact .data (.v _ rfl)
    | 1, h1, h2 => cases h1; cases h2; exact .data (.v _ rfl))
theorem atoi55_D (s : ByteArray) (hs : s.size ≤ 281474976710656) : DPure Tryd.prog 55 [.v (.string s)] (atoiP s) := by
  refine DPure.kit (args := [.string s]) fun w hg => ?_
  obtain ⟨_, ⟨t2, p2, h2⟩, ⟨t3, p3, h3⟩, _⟩ := hg
  unfold atoiP
  cases h : Lib.atoiAll s.data.toList with
  | ok v =>
    refine (Any.strconv_Atoi_ok Tryd.laysAtoi s (by omega) v h w).mono fun e w' ⟨he, hw⟩ => ?_
    refine ⟨_, he, ?_, fun F hF => rv_num⟩
    rcases hw with rfl | ⟨t, rfl⟩
    · exact Below.refl _ _
    · exact below_bytes _ _ _
  | range =>
    refine (Any.strconv_Atoi_range_var Tryd.laysAtoi s hs h t3 p3 w h3).mono fun e w' ⟨N, he, _, _, hb⟩ => ?_
    exact ⟨_, he, hb, fun F hF => rv_err⟩
  | _ =>
    refine (Any.strconv_Atoi_syntax_var Tryd.laysAtoi s hs h t2 p2 w h2).mono fun e w' ⟨N, he, _, _, hb⟩ => ?_
    exact ⟨_, he, hb, fun F hF => rv_err⟩
def lineB : ByteArray := ⟨#[10]⟩
theorem cut36_D (s : ByteArray) (hs : s.size < 4294967281) : DPure Tryd.prog 36 [.v (.string s), .v (.string lineB)] (.tup [.v (.string (bs (Lib.cut s.data.toList [10]).1)), .v (.string (bs (Lib.cut s.data.toList [10]).2.1)), .v (.bool (Lib.cut s.data.toList [10]).2.2)]) := by
  refine DPure.kit (args := [.string s, .string lineB]) fun w hg => ?_
  obtain ⟨⟨m, h1⟩, _⟩ := hg
  refine (Any.strings_Cut Tryd.laysCut s lineB m w hs h1).mono fun e w' ⟨he, n, hw⟩ => ?_
  subst hw
  exact ⟨_, he, below_drew w n, fun F hF => .tup _ [_, _, _] rfl (fun j d y h1 h2 => by
    match j, h1, h2 with
    | 0, h1, h2 => cases h1; cases h2; exact .data (.v _ rfl)
    | 1, h1, h2 => cases h1; cases h2; exact .data (.v _ rfl)
    | 2, h1, h2 => cases h1; cases h2; exact .data (.v _ rfl))⟩
/-- The pieces between blanks. -/
def spaceB : ByteArray := ⟨#[32]⟩
def wordsB (s : ByteArray) : List ByteArray := Lib.splitB spaceB 0 (Lib.countB s spaceB) s
theorem words_len (s : ByteArray) : (wordsB s).length = Lib.countB s spaceB + 1 := Lib.splitB_all spaceB (by decide) 0 _ s rfl
def words (s : ByteArray) : DV := .lst 1 ((wordsB s).map fun x => [.v (.string x)])
theorem split52_D (s : ByteArray) (hs : s.size < 4294967281) : DPure Tryd.prog 52 [.v (.string s), .v (.string spaceB)] (words s) := by
  refine DPure.kit (args := [.string s, .string spaceB]) fun w hg => ?_
  obtain ⟨⟨m, h1⟩, _⟩ := hg
  refine (Any.strings_Split { Tryd.laysSplit with } Tryd.laysSplit.i9 s spaceB m w hs h1 (by decide)).mono fun e w' ⟨he, hw⟩ => ?_
  subst hw
  refine ⟨_, he, (Below.refl _ w).alloc (Nat.le_refl _) _, fun F hF => .data ?_⟩
  have hl := words_len s
  have hcnt := Lib.countB_le spaceB (by decide) s.size s (Nat.le_refl _)
  have hel : ((wordsB s).map fun x => [DV.v (.string x)]).length = Lib.countB s spaceB + 1 := by rw [List.length_map]; exact hl
  have key : RD (w.alloc (.cells ((wordsB s).map Value.string).toArray 9)) F (.lst 1 ((wordsB s).map fun x => [DV.v (.string x)])) (.slice (some ⟨w.heap.size, 0, none⟩) ((wordsB s).map fun x => [DV.v (.string x)]).length (Lib.countB s spaceB + 1)) := by
    refine RD.lst 1 _ _ w.heap.size 0 _ (fun i _ => .string ((wordsB s).getD i ByteArray.empty)) (fun _ => rfl) (fun h => by cases h) (Nat.le_of_eq hel) (by simp only [maxLen]; omega) (fun i cs h => ?_) (fun i cs j d h1 h2 => ?_) (fun i cs j d h1 h2 => ?_)
    · simp only [List.getElem?_map, Option.map_eq_some_iff] at h
      obtain ⟨x, _, rfl⟩ := h
      rfl
    · simp only [List.getElem?_map, Option.map_eq_some_iff] at h1
      obtain ⟨x, hx, rfl⟩ := h1
      match j, h2 with
      | 0, h2 =>
        refine ⟨?_, hF _ (Nat.le_refl _)⟩
        have e2 : (wordsB s).getD i ByteArray.empty = x := by rw [List.getD_eq_getElem?_getD, hx]; rfl
        rw [e2]
        have hg : (w.alloc (.cells ((wordsB s).map Value.string).toArray 9)).heap[w.heap.size]? = some (.cells ((wordsB s).map Value.string).toArray 9 (0, 0)) := heap_alloc_new w _
        simp only [World.cell?, hg]
        simp [hx]
    · simp only [List.getElem?_map, Option.map_eq_some_iff] at h1
      obtain ⟨x, hx, rfl⟩ := h1
      match j, h2 with
      | 0, h2 =>
        cases h2
        have e2 : (wordsB s).getD i ByteArray.empty = x := by rw [List.getD_eq_getElem?_getD, hx]; rfl
        rw [e2]
        exact .v _ rfl
  rw [hel] at key
  exact key
end Go.Proofs.YtgaghkchdiepoaaDoor

/- Mischief and steps; lists compared. -/
namespace Go.Proofs.YtgaghkchdiepoaaDoor
open Go.RowKit Go.Dl
attribute [local irreducible] Tri SCall DFun QSem PCall GCall MCall Round Weak dloadE OW DWl Tells IntKind.wrap Retold ESem

structure Mx where
  kind : Int
  fr : Int
  til : Int
  rate : Int
  a : Int
  b : Int
structure Stp where
  kind : Int
  a : Int
  b : Int
  name : ByteArray
  k : Int
  n : Int
noncomputable instance : DecidableEq Mx := fun _ _ => Classical.propDecidable _
noncomputable instance : DecidableEq Stp := fun _ _ => Classical.propDecidable _
def stp0 : Stp := ⟨0, 0, 0, ByteArray.empty, 0, 0⟩
def mx0 : Mx := ⟨0, 0, 0, 0, 0, 0⟩
def bl (b : Bool) : DV := .v (.bool b)
def u64 (x : Int) : DV := .v (.int .u64 x)
def strV (x : ByteArray) : DV := .v (.string x)
def mxD (m : Mx) : List DV := [int1 m.kind, int1 m.fr, int1 m.til, int1 m.rate, int1 m.a, int1 m.b]
def stpD (s : Stp) : List DV := [int1 s.kind, int1 s.a, int1 s.b, strV s.name, int1 s.k, int1 s.n]
def mxs (l : List Mx) : DV := .lst 6 (l.map mxD)
def stps (l : List Stp) : DV := .lst 6 (l.map stpD)
def intD (x : Int) : List DV := [int1 x]
def ints (l : List Int) : DV := .lst 1 (l.map intD)

theorem wrap64 {k : Nat} (h : k < 9223372036854775808) : IntKind.i64.wrap (k : Int) = k := by
  simp [IntKind.wrap, IntKind.bits, IntKind.signed]; omega
theorem wrapI {x : Int} (h : -9223372036854775808 ≤ x) (h2 : x < 9223372036854775808) : IntKind.i64.wrap x = x := by
  simp [IntKind.wrap, IntKind.bits, IntKind.signed]; omega
theorem take_succ_eq {α : Type} {a b : List α} {d : α} {k : Nat} (hl : a.length = b.length) (h : a.take k = b.take k) (hk : k < a.length) (e : a.getD k d = b.getD k d) : a.take (k + 1) = b.take (k + 1) := by
  have h1 : a[k]? = b[k]? := by
    simp only [List.getD_eq_getElem?_getD, List.getElem?_eq_getElem hk, List.getElem?_eq_getElem (show k < b.length by omega), Option.getD_some] at e ⊢
    rw [e]
  rw [List.take_add_one, List.take_add_one, h, h1]
theorem take_succ {α : Type} {a : List α} {d : α} {k : Nat} (hk : k < a.length) : a.take (k + 1) = a.take k ++ [a.getD k d] := by
  rw [List.take_add_one, List.getElem?_eq_getElem hk, List.getD_eq_getElem?_getD, List.getElem?_eq_getElem hk]; rfl
theorem _root_.Go.Dl.Tri.at {P : Program} {N : Nat} {Y : YT} {c : Code} {st : St} {Q : DExit → St → Prop} (t : Nat) (d : DV) (_ : st.tm t = d) (h : Tri P N Y c st Q) : Tri P N Y c st Q := h
theorem wsucc {k n : Nat} (h : k < n) (hn : n ≤ 9223372036854775807) : IntKind.i64.wrap ((k : Int) + 1) = ((k + 1 : Nat) : Int) := by
  have := wrap64 (k := k + 1) (by omega)
  simpa using this
theorem lt_of_test {k : Nat} {α : Type} {f : α → List DV} {l : List α} (h : decide ((k : Int) < ((l.map f).length : Nat)) = true) : k < l.length := by simpa using h
theorem ge_of_test {k : Nat} {α : Type} {f : α → List DV} {l : List α} (h : decide ((k : Int) < ((l.map f).length : Nat)) = false) : l.length ≤ k := by simpa using h
theorem lt_int {k n : Nat} (h : decide ((k : Int) < (n : Int)) = true) : k < n := by simpa using h
theorem ge_int {k n : Nat} (h : decide ((k : Int) < (n : Int)) = false) : n ≤ k := by simpa using h
theorem _root_.Go.Dl.DWl.eq {ρ : Nat → Option Nat} {s : Sto} {pub : Nat → Prop} {X Y : List DV} (h : X = Y) (hall : Y.all noId1 = true) : DWl ρ s pub X Y := by rw [h]; exact DWl.same hall
theorem not_t {b : Bool} {Q : Prop} (h : b = true) (e : b = false) : Q := by rw [e] at h; cases h
theorem not_f {b : Bool} {Q : Prop} (h : b = false) (e : b = true) : Q := by rw [e] at h; cases h

theorem eqL_len {α : Type} [DecidableEq α] {f : α → List DV} {a b : List α} (h : ((((a.map f).length : Nat) : Int) != ((b.map f).length : Nat)) = true) : false = decide (a = b) := by
  symm
  rw [decide_eq_false_iff_not]
  intro e; subst e; simp at h
theorem eqL_lenF {α : Type} {f : α → List DV} {a b : List α} (h : ((((a.map f).length : Nat) : Int) != ((b.map f).length : Nat)) = false) : a.length = b.length := by simp at h; omega
theorem eqL_at {α : Type} [DecidableEq α] {a b : List α} {d : α} {k : Nat} (h : a.getD k d ≠ b.getD k d) : false = decide (a = b) := by
  symm
  rw [decide_eq_false_iff_not]
  intro e; subst e; exact h rfl
theorem eqL_all {α : Type} [DecidableEq α] {a b : List α} {k : Nat} (hl : a.length = b.length) (hk : k ≤ a.length ∧ a.take k = b.take k) (h : a.length ≤ k) : true = decide (a = b) := by
  symm
  have h4 := hk.2
  rw [List.take_of_length_le h, List.take_of_length_le (by omega)] at h4
  simp [h4]
theorem k50 : eqTK Tryd.prog 50 = some [.int, .int, .int, .int, .int, .int] := by kernel_rfl
theorem k34 : eqTK Tryd.prog 34 = some [.int, .int, .int, .str, .int, .int] := by kernel_rfl
theorem ba_eq {a b : ByteArray} : (a == b) = true ↔ a = b := by
  obtain ⟨a⟩ := a
  obtain ⟨b⟩ := b
  show (a == b) = true ↔ _
  simp
theorem mx_ne {x y : Mx} {b : Bool} (h : (!cellsEq (mxD x) (mxD y)) = b) : b = true ↔ x ≠ y := by
  subst h
  cases x; cases y
  simp [cellsEq, cellEq, mxD, int1]
  grind
theorem stp_ne {x y : Stp} {b : Bool} (h : (!cellsEq (stpD x) (stpD y)) = b) : b = true ↔ x ≠ y := by
  subst h
  obtain ⟨x1, x2, x3, x4, x5, x6⟩ := x
  obtain ⟨y1, y2, y3, y4, y5, y6⟩ := y
  have e := ba_eq (a := x4) (b := y4)
  simp only [cellsEq, cellEq, stpD, int1, strV]
  by_cases h4 : x4 = y4
  · rw [e.2 h4]; simp; grind
  · rw [show (x4 == y4) = false from by simpa using fun h => h4 (e.1 h)]; simp; grind
def sameSt (a b : List Mx) (k : Nat) : St := ⟨0, tmOf [(0, mxs a), (1, mxs b), (5, int1 k)], .of [] 0⟩
set_option maxRecDepth 20000 in
theorem same_D (a b : List Mx) : DPure Tryd.prog 17 [mxs a, mxs b] (bl (decide (a = b))) := by
  refine DFun.bound 0 rfl fun ha => ?_
  have ha : a.length ≤ 9223372036854775807 := by simpa [maxLen] using ha
  refine DFun.body Tryd.func17 rfl (by kernel_rfl) ?_
  repeat' (first | with_reducible rfl | ((conv => whnf); first | refine And.intro ?_ ?_ | (intro h; first | with_reducible exact tf_no h | with_reducible exact ft_no h | exact Bool.noConfusion h | with_reducible exact h | (have ht : true = true := h; clear ht h) | skip) | ((with_reducible refine DWl.mark ?_); repeat' (first | refine DWl.cons ?_ ?_ | exact DWl.nil | exact DW.same _ rfl | exact DW.ref _ _ _ rfl | exact DW.arr _ _ _ rfl | exact DW.sub _ _ _ _ rfl | exact DW.nilLst _ | refine DW.aggl ?_ | refine DW.tupl ?_ | refine DW.clol ?_ ?_ | refine DW.int ?_ | refine DW.bool ?_ | refine DW.str ?_)) | ((with_reducible refine Tri.mark ?_); first | refine Tri.loop (sameSt a b) (fun k => k ≤ a.length ∧ a.take k = b.take k) (fun k => a.length - k) (0) (by kernel_rfl) (Weak.list [] [] ?_ ?_ ?_) ?_ ?_) | ((with_reducible refine Round.mark ?_); first | refine Round.go ((· + 1)) ?_ ?_ (Weak.list [] [] ?_ ?_ ?_)) | ((with_reducible refine ex_mark ?_); first | refine dq_eql k50 ?_ rfl ?_ rfl rfl ?_ | refine dq_neq k50 ?_ rfl ?_ rfl rfl ?_) | ((with_reducible refine ECall.mark ?_); first | refine ECall.only ?_ (fun h => nomatch h) | refine ECall.only ?_ ?_) | ((with_reducible refine Drawn.mark ?_); first | refine Drawn.quiet (by kernel_rfl) ?_) | refine dloadE_map (mx0) ?_ ?_ | refine dcell_ok rfl ?_ | refine AppC.new ?_))
  all_goals first | (with_reducible refine enters_mark ?_; kernel_rfl) | (with_reducible refine boolT_mark ?_; kernel_rfl) | rfl | trivial | assumption | exact Nat.le_of_ble_eq_true rfl | (show entersB _ _ = true; kernel_rfl) | exact DW.same _ rfl | exact DW.ref _ _ _ rfl | exact DW.arr _ _ _ rfl | refine DW.int ?_ | refine dvb ?_ | refine dvi ?_ | exact OW.cells rfl rfl (DWl.same rfl) | skip
  all_goals repeat' (first | exact OW.cells rfl rfl (DWl.same rfl) | refine OW.cells rfl rfl ?_ | exact DW.nilArr _ rfl | refine DW.clol ?_ ?_ | refine DWl.cons ?_ ?_ | exact DWl.nil | exact DW.same _ rfl | exact DW.ref _ _ _ rfl | exact DW.arr _ _ _ rfl | refine DW.int ?_)
  all_goals try (simp_all; done)
  all_goals try (simp at *; omega)
  · exact eqL_len h
  · exact eqL_at ((mx_ne h).1 rfl)
  · rename_i e0 k hk e1
    refine take_succ_eq (d := mx0) (eqL_lenF e0) hk.2 (lt_of_test e1) (Classical.byContradiction fun hc => ?_)
    have := (mx_ne h).2 hc
    cases this
  · rename_i e0 k hk e1
    exact wsucc (lt_of_test e1) ha
  · rename_i e0 k hk
    exact eqL_all (eqL_lenF e0) hk (ge_of_test h)
def stepsSt (a b : List Stp) (k : Nat) : St := ⟨0, tmOf [(0, stps a), (1, stps b), (5, int1 k)], .of [] 0⟩
set_option maxRecDepth 20000 in
theorem steps_D (a b : List Stp) : DPure Tryd.prog 15 [stps a, stps b] (bl (decide (a = b))) := by
  refine DFun.bound 0 rfl fun ha => ?_
  have ha : a.length ≤ 9223372036854775807 := by simpa [maxLen] using ha
  refine DFun.body Tryd.func15 rfl (by kernel_rfl) ?_
  repeat' (first | with_reducible rfl | ((conv => whnf); first | refine And.intro ?_ ?_ | (intro h; first | with_reducible exact tf_no h | with_reducible exact ft_no h | exact Bool.noConfusion h | with_reducible exact h | (have ht : true = true := h; clear ht h) | skip) | ((with_reducible refine DWl.mark ?_); repeat' (first | refine DWl.cons ?_ ?_ | exact DWl.nil | exact DW.same _ rfl | exact DW.ref _ _ _ rfl | exact DW.arr _ _ _ rfl | exact DW.sub _ _ _ _ rfl | exact DW.nilLst _ | refine DW.aggl ?_ | refine DW.tupl ?_ | refine DW.clol ?_ ?_ | refine DW.int ?_ | refine DW.bool ?_ | refine DW.str ?_)) | ((with_reducible refine Tri.mark ?_); first | refine Tri.loop (stepsSt a b) (fun k => k ≤ a.length ∧ a.take k = b.take k) (fun k => a.length - k) (0) (by kernel_rfl) (Weak.list [] [] ?_ ?_ ?_) ?_ ?_) | ((with_reducible refine Round.mark ?_); first | refine Round.go ((· + 1)) ?_ ?_ (Weak.list [] [] ?_ ?_ ?_)) | ((with_reducible refine ex_mark ?_); first | refine dq_eql k34 ?_ rfl ?_ rfl rfl ?_ | refine dq_neq k34 ?_ rfl ?_ rfl rfl ?_) | ((with_reducible refine ECall.mark ?_); first | refine ECall.only ?_ (fun h => nomatch h) | refine ECall.only ?_ ?_) | ((with_reducible refine Drawn.mark ?_); first | refine Drawn.quiet (by kernel_rfl) ?_) | refine dloadE_map (stp0) ?_ ?_ | refine dcell_ok rfl ?_ | refine AppC.new ?_))
  all_goals first | (with_reducible refine enters_mark ?_; kernel_rfl) | (with_reducible refine boolT_mark ?_; kernel_rfl) | rfl | trivial | assumption | exact Nat.le_of_ble_eq_true rfl | (show entersB _ _ = true; kernel_rfl) | exact DW.same _ rfl | exact DW.ref _ _ _ rfl | exact DW.arr _ _ _ rfl | refine DW.int ?_ | refine dvb ?_ | refine dvi ?_ | exact OW.cells rfl rfl (DWl.same rfl) | skip
  all_goals repeat' (first | exact OW.cells rfl rfl (DWl.same rfl) | refine OW.cells rfl rfl ?_ | exact DW.nilArr _ rfl | refine DW.clol ?_ ?_ | refine DWl.cons ?_ ?_ | exact DWl.nil | exact DW.same _ rfl | exact DW.ref _ _ _ rfl | exact DW.arr _ _ _ rfl | refine DW.int ?_)
  all_goals try (simp_all; done)
  all_goals try (simp at *; omega)
  · exact eqL_len h
  · exact eqL_at ((stp_ne h).1 rfl)
  · rename_i e0 k hk e1
    refine take_succ_eq (d := stp0) (eqL_lenF e0) hk.2 (lt_of_test e1) (Classical.byContradiction fun hc => ?_)
    have := (stp_ne h).2 hc
    cases this
  · rename_i e0 k hk e1
    exact wsucc (lt_of_test e1) ha
  · rename_i e0 k hk
    exact eqL_all (eqL_lenF e0) hk (ge_of_test h)
def intsSt (a b : List Int) (k : Nat) : St := ⟨0, tmOf [(0, ints a), (1, ints b), (5, int1 k)], .of [] 0⟩
set_option maxRecDepth 20000 in
theorem ints_D (a b : List Int) : DPure Tryd.prog 10 [ints a, ints b] (bl (decide (a = b))) := by
  refine DFun.bound 0 rfl fun ha => ?_
  have ha : a.length ≤ 9223372036854775807 := by simpa [maxLen] using ha
  refine DFun.body Tryd.func10 rfl (by kernel_rfl) ?_
  repeat' (first | with_reducible rfl | ((conv => whnf); first | refine And.intro ?_ ?_ | (intro h; first | with_reducible exact tf_no h | with_reducible exact ft_no h | exact Bool.noConfusion h | with_reducible exact h | (have ht : true = true := h; clear ht h) | skip) | ((with_reducible refine DWl.mark ?_); repeat' (first | refine DWl.cons ?_ ?_ | exact DWl.nil | exact DW.same _ rfl | exact DW.ref _ _ _ rfl | exact DW.arr _ _ _ rfl | exact DW.sub _ _ _ _ rfl | exact DW.nilLst _ | refine DW.aggl ?_ | refine DW.tupl ?_ | refine DW.clol ?_ ?_ | refine DW.int ?_ | refine DW.bool ?_ | refine DW.str ?_)) | ((with_reducible refine Tri.mark ?_); first | refine Tri.loop (intsSt a b) (fun k => k ≤ a.length ∧ a.take k = b.take k) (fun k => a.length - k) (0) (by kernel_rfl) (Weak.list [] [] ?_ ?_ ?_) ?_ ?_) | ((with_reducible refine Round.mark ?_); first | refine Round.go ((· + 1)) ?_ ?_ (Weak.list [] [] ?_ ?_ ?_)) | ((with_reducible refine ECall.mark ?_); first | refine ECall.only ?_ (fun h => nomatch h) | refine ECall.only ?_ ?_) | ((with_reducible refine Drawn.mark ?_); first | refine Drawn.quiet (by kernel_rfl) ?_) | refine dloadE_map (0) ?_ ?_ | refine dcell_ok rfl ?_ | refine AppC.new ?_))
  all_goals first | (with_reducible refine enters_mark ?_; kernel_rfl) | (with_reducible refine boolT_mark ?_; kernel_rfl) | rfl | trivial | assumption | exact Nat.le_of_ble_eq_true rfl | (show entersB _ _ = true; kernel_rfl) | exact DW.same _ rfl | exact DW.ref _ _ _ rfl | exact DW.arr _ _ _ rfl | refine DW.int ?_ | refine dvb ?_ | refine dvi ?_ | exact OW.cells rfl rfl (DWl.same rfl) | skip
  all_goals repeat' (first | exact OW.cells rfl rfl (DWl.same rfl) | refine OW.cells rfl rfl ?_ | exact DW.nilArr _ rfl | refine DW.clol ?_ ?_ | refine DWl.cons ?_ ?_ | exact DWl.nil | exact DW.same _ rfl | exact DW.ref _ _ _ rfl | exact DW.arr _ _ _ rfl | refine DW.int ?_)
  all_goals try (simp_all; done)
  all_goals try (simp at *; omega)
  · exact eqL_len h
  · exact eqL_at (by simpa using h)
  · rename_i e0 k hk e1
    exact take_succ_eq (d := 0) (eqL_lenF e0) hk.2 (lt_of_test e1) (by simpa using h)
  · rename_i e0 k hk e1
    exact wsucc (lt_of_test e1) ha
  · rename_i e0 k hk
    exact eqL_all (eqL_lenF e0) hk (ge_of_test h)
end Go.Proofs.YtgaghkchdiepoaaDoor

/- Plans that fit. -/
namespace Go.Proofs.YtgaghkchdiepoaaDoor
open Go.RowKit Go.Dl
theorem gcall47 {s : Sto} {id : Nat} {n v : Int} {g : Bool} {Kd : DV → Prop} {Kt : DV → Sto → Prop} {Kf : Prop} (h : g = true → SCall Tryd.prog 47 [int1 v, .ref id 0] s fun r' s' => r' = bl (bif decide (0 ≤ v) then decide (v < n) else false) ∧ s' = s)
    (hK : Kd (bl (bif decide (0 ≤ v) then decide (v < n) else false))) : GCall Tryd.prog 47 [int1 v, .ref id 0] s g Kd Kt Kf := .inl ⟨_, h, hK⟩
attribute [local irreducible] Tri SCall DFun QSem PCall GCall MCall Round Weak dloadE OW DWl Tells IntKind.wrap Retold ESem

def EntP (n : Int) (m : Mx) : Prop := 0 ≤ m.fr ∧ m.fr ≤ 1048576 ∧ m.fr ≤ m.til ∧ m.til ≤ 1048576 ∧ (((1 ≤ m.kind ∧ m.kind ≤ 3) ∧ 0 ≤ m.rate ∧ m.rate ≤ 1000 ∧ m.a = 0 ∧ m.b = 0) ∨ (m.kind = 4 ∧ m.rate = 0 ∧ (0 ≤ m.a ∧ m.a < n) ∧ (0 ≤ m.b ∧ m.b < n) ∧ m.a ≠ m.b) ∨ (m.kind = 5 ∧ m.rate = 0 ∧ (0 ≤ m.a ∧ m.a < n) ∧ m.b = 0))
instance (n : Int) (m : Mx) : Decidable (EntP n m) := by unfold EntP; exact inferInstance
def entB (n : Int) (m : Mx) : Bool := decide (EntP n m)
set_option maxRecDepth 20000 in
theorem entry27_D (n : Int) (m : Mx) : DPure Tryd.prog 27 [int1 n, .agg (mxD m)] (bl (entB n m)) := by
  refine DFun.data (DFun.body Tryd.func27 rfl (by kernel_rfl) ?_)
  repeat' (first | with_reducible rfl | ((conv => whnf); first | refine And.intro ?_ ?_ | (intro h; first | with_reducible exact tf_no h | with_reducible exact ft_no h | exact Bool.noConfusion h | with_reducible exact h | (have ht : true = true := h; clear ht h) | skip) | ((with_reducible refine DWl.mark ?_); repeat' (first | refine DWl.cons ?_ ?_ | exact DWl.nil | exact DW.same _ rfl | exact DW.ref _ _ _ rfl | exact DW.arr _ _ _ rfl | exact DW.sub _ _ _ _ rfl | exact DW.nilLst _ | refine DW.aggl ?_ | refine DW.tupl ?_ | refine DW.clol ?_ ?_ | refine DW.int ?_ | refine DW.bool ?_ | refine DW.str ?_)) | ((with_reducible refine ECall.mark ?_); first | refine ECall.only ?_ (fun h => nomatch h) | refine ECall.only ?_ ?_) | ((with_reducible refine Drawn.mark ?_); first | refine Drawn.quiet (by kernel_rfl) ?_) | refine dcell_ok rfl ?_ | refine AppC.new ?_))
  all_goals first | (with_reducible refine enters_mark ?_; kernel_rfl) | (with_reducible refine boolT_mark ?_; kernel_rfl) | rfl | trivial | assumption | exact Nat.le_of_ble_eq_true rfl | (show entersB _ _ = true; kernel_rfl) | exact DW.same _ rfl | exact DW.ref _ _ _ rfl | exact DW.arr _ _ _ rfl | refine DW.int ?_ | refine dvb ?_ | refine dvi ?_ | exact OW.cells rfl rfl (DWl.same rfl) | exact Nat.zero_le _ | omega | skip
  all_goals repeat' (first | refine OW.cells rfl rfl ?_ | exact DW.nilArr _ rfl | refine DWl.cons ?_ ?_ | exact DWl.nil | exact DW.same _ rfl | exact DW.ref _ _ _ rfl | exact DW.arr _ _ _ rfl | exact DW.sub _ _ _ _ rfl | exact DW.nilLst _ | refine DW.aggl ?_ | refine DW.tupl ?_ | refine DW.clol ?_ ?_)
  all_goals try ((conv => whnf); with_reducible first | refine Round.mark ?_ | refine Tells.mark ?_ | refine Retold.mark ?_)
  all_goals try first | (show (_ : Bool) = _; simp_all; done) | (show (_ : Int) < _; simp at *; omega) | (show (_ : Int) ≤ _; simp at *; omega) | (show (_ : Nat) < _; simp at *; omega) | (show (_ : Nat) ≤ _; simp at *; omega)
  all_goals (conv => whnf)
  all_goals refine Tells.mk (DW.bool ?_)
  all_goals (rw [Bool.eq_iff_iff, entB, decide_eq_true_iff]; unfold EntP; simp at *; omega)
set_option maxRecDepth 20000 in
theorem fit26_D (n : Int) (m : Mx) : DPure Tryd.prog 26 [.agg (mxD m), int1 n] (bl (entB n m)) := by
  refine DFun.data (DFun.body Tryd.func26 rfl (by kernel_rfl) ?_)
  repeat' (first | with_reducible rfl | ((conv => whnf); first | refine And.intro ?_ ?_ | (intro h; first | with_reducible exact tf_no h | with_reducible exact ft_no h | exact Bool.noConfusion h | with_reducible exact h | (have ht : true = true := h; clear ht h) | skip) | ((with_reducible refine DWl.mark ?_); repeat' (first | refine DWl.cons ?_ ?_ | exact DWl.nil | exact DW.same _ rfl | exact DW.ref _ _ _ rfl | exact DW.arr _ _ _ rfl | exact DW.sub _ _ _ _ rfl | exact DW.nilLst _ | refine DW.aggl ?_ | refine DW.tupl ?_ | refine DW.clol ?_ ?_ | refine DW.int ?_ | refine DW.bool ?_ | refine DW.str ?_)) | ((with_reducible refine SCall.mark ?_); first | refine SCall.run Tryd.func47 rfl (Nat.le_of_ble_eq_true rfl) (by kernel_rfl) ?_) | ((with_reducible refine GCall.mark ?_); first | refine gcall47 (n := n) ?_ ?_) | ((with_reducible refine ECall.mark ?_); first | refine ECall.only ?_ (fun h => nomatch h) | refine ECall.only ?_ ?_) | ((with_reducible refine Drawn.mark ?_); first | refine Drawn.quiet (by kernel_rfl) ?_) | refine dcell_ok rfl ?_ | refine AppC.new ?_))
  all_goals first | (with_reducible refine enters_mark ?_; kernel_rfl) | (with_reducible refine boolT_mark ?_; kernel_rfl) | rfl | trivial | assumption | exact Nat.le_of_ble_eq_true rfl | (show entersB _ _ = true; kernel_rfl) | exact DW.same _ rfl | exact DW.ref _ _ _ rfl | exact DW.arr _ _ _ rfl | refine DW.int ?_ | refine dvb ?_ | refine dvi ?_ | exact OW.cells rfl rfl (DWl.same rfl) | exact Nat.zero_le _ | omega | skip
  all_goals repeat' (first | refine OW.cells rfl rfl ?_ | exact DW.nilArr _ rfl | refine DWl.cons ?_ ?_ | exact DWl.nil | exact DW.same _ rfl | exact DW.ref _ _ _ rfl | exact DW.arr _ _ _ rfl | exact DW.sub _ _ _ _ rfl | exact DW.nilLst _ | refine DW.aggl ?_ | refine DW.tupl ?_ | refine DW.clol ?_ ?_)
  all_goals try ((conv => whnf); with_reducible first | refine Round.mark ?_ | refine Tells.mark ?_ | refine Retold.mark ?_)
  all_goals try first | (show (_ : Bool) = _; simp_all; done) | (show (_ : Int) < _; simp at *; omega) | (show (_ : Int) ≤ _; simp at *; omega) | (show (_ : Nat) < _; simp at *; omega) | (show (_ : Nat) ≤ _; simp at *; omega)
  all_goals (conv => whnf)
  all_goals refine Tells.mk (DW.bool ?_)
  all_goals (rw [Bool.eq_iff_iff, entB, decide_eq_true_iff]; unfold EntP; simp at *; omega)
end Go.Proofs.YtgaghkchdiepoaaDoor

/- Plans that fit: whole plans. -/
namespace Go.Proofs.YtgaghkchdiepoaaDoor
open Go.RowKit Go.Dl
attribute [local irreducible] Tri SCall DFun QSem PCall GCall MCall Round Weak dloadE OW DWl Tells IntKind.wrap Retold ESem

def FitP (n : Int) (l : List Mx) : Prop := 1 ≤ n ∧ n ≤ 16 ∧ l.length ≤ 32 ∧ ∀ i, i < l.length → EntP n (l.getD i mx0)
noncomputable instance (n : Int) (l : List Mx) : Decidable (FitP n l) := Classical.propDecidable _
noncomputable def fitB (n : Int) (l : List Mx) : Bool := decide (FitP n l)
theorem ent_iff {n : Int} {m : Mx} : entB n m = true ↔ EntP n m := decide_eq_true_iff
theorem ent_no {n : Int} {m : Mx} (h : (!entB n m) = true) : ¬ EntP n m := fun e => by rw [ent_iff.2 e] at h; cases h
theorem ent_yes {n : Int} {m : Mx} (h : (!entB n m) = false) : EntP n m := ent_iff.1 (by simpa using h)
theorem fit_out {n : Int} {l : List Mx} (h : (bif bif decide (n < 1) then true else decide (16 < n) then true else decide (32 < (((l.map mxD).length : Nat) : Int))) = true) : false = fitB n l := by
  symm; rw [fitB, decide_eq_false_iff_not]
  rintro ⟨h1, h2, h3, _⟩
  simp at h; omega
theorem fit_in {n : Int} {l : List Mx} (h : (bif bif decide (n < 1) then true else decide (16 < n) then true else decide (32 < (((l.map mxD).length : Nat) : Int))) = false) : 1 ≤ n ∧ n ≤ 16 ∧ l.length ≤ 32 := by
  simp at h; omega
theorem fit_bad {n : Int} {l : List Mx} {i : Nat} (hi : i < l.length) (h : ¬ EntP n (l.getD i mx0)) : false = fitB n l := by
  symm; rw [fitB, decide_eq_false_iff_not]
  exact fun e => h (e.2.2.2 i hi)
theorem fit_good {n : Int} {l : List Mx} (h : 1 ≤ n ∧ n ≤ 16 ∧ l.length ≤ 32) {i : Nat} (hi : l.length ≤ i) (h2 : ∀ j, j < i → EntP n (l.getD j mx0)) : true = fitB n l := by
  symm; rw [fitB, decide_eq_true_iff]
  exact ⟨h.1, h.2.1, h.2.2, fun j hj => h2 j (by omega)⟩
def fit9St (n : Int) (l : List Mx) (i : Nat) : St := ⟨0, tmOf [(0, int1 n), (1, mxs l), (5, int1 i)], .of [] 0⟩
attribute [local irreducible] entB
set_option maxRecDepth 20000 in
theorem fit9_D (n : Int) (l : List Mx) : DPure Tryd.prog 9 [int1 n, mxs l] (bl (fitB n l)) := by
  refine DFun.data (DFun.body Tryd.func9 rfl (by kernel_rfl) ?_)
  repeat' (first | with_reducible rfl | ((conv => whnf); first | refine And.intro ?_ ?_ | (intro h; first | with_reducible exact tf_no h | with_reducible exact ft_no h | exact Bool.noConfusion h | with_reducible exact h | (have ht : true = true := h; clear ht h) | skip) | ((with_reducible refine DWl.mark ?_); repeat' (first | refine DWl.cons ?_ ?_ | exact DWl.nil | exact DW.same _ rfl | exact DW.ref _ _ _ rfl | exact DW.arr _ _ _ rfl | exact DW.sub _ _ _ _ rfl | exact DW.nilLst _ | refine DW.aggl ?_ | refine DW.tupl ?_ | refine DW.clol ?_ ?_ | refine DW.int ?_ | refine DW.bool ?_ | refine DW.str ?_)) | ((with_reducible refine SCall.mark ?_); first | refine SCall.data (entry27_D n _) rfl rfl ?_ | refine SCall.scal (entry27_D n _) rfl rfl ?_) | ((with_reducible refine PCall.mark ?_); first | refine PCall.mk (entry27_D n _) rfl rfl ?_) | ((with_reducible refine GCall.mark ?_); first | refine GCall.data (fun _ => entry27_D n _) rfl rfl ?_ | refine GCall.scal (fun _ => entry27_D n _) rfl rfl ?_) | ((with_reducible refine MCall.mark ?_); first | refine MCall.data (fun _ => entry27_D n _) rfl rfl ?_ | refine MCall.plain (PCall.mk (entry27_D n _) rfl rfl ?_)) | ((with_reducible refine Tri.mark ?_); first | refine Tri.loop (fit9St n l) (fun i => i ≤ l.length ∧ ∀ j, j < i → EntP n (l.getD j mx0)) (fun i => l.length - i) (0) (by kernel_rfl) (Weak.list [] [] ?_ ?_ ?_) ?_ ?_) | ((with_reducible refine ECall.mark ?_); first | refine ECall.only ?_ (fun h => nomatch h) | refine ECall.only ?_ ?_) | ((with_reducible refine Drawn.mark ?_); first | refine Drawn.quiet (by kernel_rfl) ?_) | refine dloadE_map (mx0) ?_ ?_ | refine dcell_ok rfl ?_ | refine AppC.new ?_))
  all_goals first | (with_reducible refine enters_mark ?_; kernel_rfl) | (with_reducible refine boolT_mark ?_; kernel_rfl) | rfl | trivial | assumption | exact Nat.le_of_ble_eq_true rfl | (show entersB _ _ = true; kernel_rfl) | exact DW.same _ rfl | exact DW.ref _ _ _ rfl | exact DW.arr _ _ _ rfl | refine DW.int ?_ | refine dvb ?_ | refine dvi ?_ | exact OW.cells rfl rfl (DWl.same rfl) | exact Nat.zero_le _ | omega | skip
  all_goals repeat' (first | refine OW.cells rfl rfl ?_ | exact DW.nilArr _ rfl | refine DWl.cons ?_ ?_ | exact DWl.nil | exact DW.same _ rfl | exact DW.ref _ _ _ rfl | exact DW.arr _ _ _ rfl | exact DW.sub _ _ _ _ rfl | exact DW.nilLst _ | refine DW.aggl ?_ | refine DW.tupl ?_ | refine DW.clol ?_ ?_)
  all_goals try ((conv => whnf); with_reducible first | refine Round.mark ?_ | refine Tells.mark ?_ | refine Retold.mark ?_)
  all_goals try first | (show (_ : Bool) = _; simp_all; done) | (show (_ : Int) < _; simp at *; omega) | (show (_ : Int) ≤ _; simp at *; omega) | (show (_ : Nat) < _; simp at *; omega) | (show (_ : Nat) ≤ _; simp at *; omega)
  · conv => whnf
    exact Tells.mk (DW.bool (fit_out h))
  · rename_i i hi e0
    conv => whnf
    exact Tells.mk (DW.bool (fit_bad (lt_of_test e0) (by have := ent_no h; rwa [Int.toNat_natCast] at this)))
  · rename_i i hi e0
    have hlt := lt_of_test e0
    have hin := fit_in ‹_›
    refine Round.go (· + 1) ⟨hlt, fun j hj => ?_⟩ (by show l.length - (i + 1) < l.length - i; omega) (Weak.list [] [] (by kernel_rfl) ?_ ?_)
    · rcases Nat.lt_succ_iff_lt_or_eq.1 hj with h5 | h5
      · exact hi.2 j h5
      · subst h5; have := ent_yes h; rwa [Int.toNat_natCast] at this
    · repeat' (first | exact wsucc hlt (by omega) | exact DW.same _ rfl | exact DW.ref _ _ _ rfl | exact DW.arr _ _ _ rfl | exact OW.cells rfl rfl (DWl.same rfl) | refine OW.cells rfl rfl ?_ | refine DWl.cons ?_ ?_ | exact DWl.nil | exact DW.nilArr _ rfl | exact DW.nilLst _ | refine DW.clol ?_ ?_ | refine DW.aggl ?_ | refine DW.tupl ?_ | refine DW.int ?_ | refine DW.bool ?_ | refine DW.str ?_ | refine DW.arrE rfl ?_ | ((conv => whnf); first | refine And.intro ?_ ?_ | trivial))
    · repeat' (first | exact wsucc hlt (by omega) | exact DW.same _ rfl | exact DW.ref _ _ _ rfl | exact DW.arr _ _ _ rfl | exact OW.cells rfl rfl (DWl.same rfl) | refine OW.cells rfl rfl ?_ | refine DWl.cons ?_ ?_ | exact DWl.nil | exact DW.nilArr _ rfl | exact DW.nilLst _ | refine DW.clol ?_ ?_ | refine DW.aggl ?_ | refine DW.tupl ?_ | refine DW.int ?_ | refine DW.bool ?_ | refine DW.str ?_ | refine DW.arrE rfl ?_ | ((conv => whnf); first | refine And.intro ?_ ?_ | trivial))
  · rename_i i hi
    conv => whnf
    exact Tells.mk (DW.bool (fit_good (fit_in ‹_›) (ge_of_test h) hi.2))
def fit46St (n : Int) (l : List Mx) (i : Nat) : St := ⟨1, tmOf [(0, mxs l), (1, .clo (.func 25) [] [.ref 0 0]), (7, int1 (l.map mxD).length), (8, int1 i)], .of [(0, ⟨3, 1, [int1 n]⟩)] 1⟩
set_option maxRecDepth 20000 in
theorem fit8_D (n : Int) (l : List Mx) : DPure Tryd.prog 8 [int1 n, mxs l] (bl (fitB n l)) := by
  refine DFun.data (DFun.body Tryd.func8 rfl (by kernel_rfl) ?_)
  repeat' (first | with_reducible rfl | ((conv => whnf); first | refine And.intro ?_ ?_ | (intro h; first | with_reducible exact tf_no h | with_reducible exact ft_no h | exact Bool.noConfusion h | with_reducible exact h | (have ht : true = true := h; clear ht h) | skip) | ((with_reducible refine DWl.mark ?_); repeat' (first | refine DWl.cons ?_ ?_ | exact DWl.nil | exact DW.same _ rfl | exact DW.ref _ _ _ rfl | exact DW.arr _ _ _ rfl | exact DW.sub _ _ _ _ rfl | exact DW.nilLst _ | refine DW.aggl ?_ | refine DW.tupl ?_ | refine DW.clol ?_ ?_ | refine DW.int ?_ | refine DW.bool ?_ | refine DW.str ?_)) | ((with_reducible refine SCall.mark ?_); first | refine SCall.run Tryd.func24 rfl (Nat.le_of_ble_eq_true rfl) (by kernel_rfl) ?_ | refine SCall.run Tryd.func46 rfl (Nat.le_of_ble_eq_true rfl) (by kernel_rfl) ?_ | refine SCall.run Tryd.func25 rfl (Nat.le_of_ble_eq_true rfl) (by kernel_rfl) ?_ | refine SCall.data (fit26_D n _) rfl rfl ?_ | refine SCall.scal (fit26_D n _) rfl rfl ?_) | ((with_reducible refine PCall.mark ?_); first | refine PCall.mk (fit26_D n _) rfl rfl ?_) | ((with_reducible refine GCall.mark ?_); first | refine GCall.data (fun _ => fit26_D n _) rfl rfl ?_ | refine GCall.scal (fun _ => fit26_D n _) rfl rfl ?_) | ((with_reducible refine MCall.mark ?_); first | refine MCall.data (fun _ => fit26_D n _) rfl rfl ?_ | refine MCall.plain (PCall.mk (fit26_D n _) rfl rfl ?_)) | ((with_reducible refine Tri.mark ?_); first | refine Tri.loop (fit46St n l) (fun i => i ≤ l.length ∧ ∀ j, j < i → EntP n (l.getD j mx0)) (fun i => l.length - i) (0) (by kernel_rfl) (Weak.list [] [] ?_ ?_ ?_) ?_ ?_) | ((with_reducible refine ECall.mark ?_); first | refine ECall.only ?_ (fun h => nomatch h) | refine ECall.only ?_ ?_) | ((with_reducible refine Drawn.mark ?_); first | refine Drawn.quiet (by kernel_rfl) ?_) | refine dloadE_map (mx0) ?_ ?_ | refine dcell_ok rfl ?_ | refine AppC.new ?_))
  all_goals first | (with_reducible refine enters_mark ?_; kernel_rfl) | (with_reducible refine boolT_mark ?_; kernel_rfl) | rfl | trivial | assumption | exact Nat.le_of_ble_eq_true rfl | (show entersB _ _ = true; kernel_rfl) | exact DW.same _ rfl | exact DW.ref _ _ _ rfl | exact DW.arr _ _ _ rfl | refine DW.int ?_ | refine dvb ?_ | refine dvi ?_ | exact OW.cells rfl rfl (DWl.same rfl) | exact Nat.zero_le _ | omega | skip
  all_goals repeat' (first | refine OW.cells rfl rfl ?_ | exact DW.nilArr _ rfl | refine DWl.cons ?_ ?_ | exact DWl.nil | exact DW.same _ rfl | exact DW.ref _ _ _ rfl | exact DW.arr _ _ _ rfl | exact DW.sub _ _ _ _ rfl | exact DW.nilLst _ | refine DW.aggl ?_ | refine DW.tupl ?_ | refine DW.clol ?_ ?_)
  all_goals try ((conv => whnf); with_reducible first | refine Round.mark ?_ | refine Tells.mark ?_ | refine Retold.mark ?_)
  all_goals try first | (show (_ : Bool) = _; simp_all; done) | (show (_ : Int) < _; simp at *; omega) | (show (_ : Int) ≤ _; simp at *; omega) | (show (_ : Nat) < _; simp at *; omega) | (show (_ : Nat) ≤ _; simp at *; omega)
  · conv => whnf
    exact Tells.mk (DW.bool (fit_out h))
  · rename_i i hi e0
    conv => whnf
    exact Tells.mk (DW.bool (fit_bad (lt_of_test e0) (by have := ent_no h; rwa [Int.toNat_natCast] at this)))
  · rename_i i hi e0
    have hlt := lt_of_test e0
    have hin := fit_in ‹_›
    refine Round.go (· + 1) ⟨hlt, fun j hj => ?_⟩ (by show l.length - (i + 1) < l.length - i; omega) (Weak.list [] [] (by kernel_rfl) ?_ ?_)
    · rcases Nat.lt_succ_iff_lt_or_eq.1 hj with h5 | h5
      · exact hi.2 j h5
      · subst h5; have := ent_yes h; rwa [Int.toNat_natCast] at this
    · repeat' (first | exact wsucc hlt (by omega) | exact DW.same _ rfl | exact DW.ref _ _ _ rfl | exact DW.arr _ _ _ rfl | exact OW.cells rfl rfl (DWl.same rfl) | refine OW.cells rfl rfl ?_ | refine DWl.cons ?_ ?_ | exact DWl.nil | exact DW.nilArr _ rfl | exact DW.nilLst _ | refine DW.clol ?_ ?_ | refine DW.aggl ?_ | refine DW.tupl ?_ | refine DW.int ?_ | refine DW.bool ?_ | refine DW.str ?_ | refine DW.arrE rfl ?_ | ((conv => whnf); first | refine And.intro ?_ ?_ | trivial))
    · repeat' (first | exact wsucc hlt (by omega) | exact DW.same _ rfl | exact DW.ref _ _ _ rfl | exact DW.arr _ _ _ rfl | exact OW.cells rfl rfl (DWl.same rfl) | refine OW.cells rfl rfl ?_ | refine DWl.cons ?_ ?_ | exact DWl.nil | exact DW.nilArr _ rfl | exact DW.nilLst _ | refine DW.clol ?_ ?_ | refine DW.aggl ?_ | refine DW.tupl ?_ | refine DW.int ?_ | refine DW.bool ?_ | refine DW.str ?_ | refine DW.arrE rfl ?_ | ((conv => whnf); first | refine And.intro ?_ ?_ | trivial))
  · rename_i i hi
    conv => whnf
    exact Tells.mk (DW.bool (fit_good (fit_in ‹_›) (ge_of_test h) hi.2))
end Go.Proofs.YtgaghkchdiepoaaDoor

/- A plan laid: numbers drawn, a step put, by the program. -/
namespace Go.Proofs.YtgaghkchdiepoaaDoor
open Go.RowKit Go.Dl
attribute [local irreducible] Tri SCall TSem ECall Drawn DFun QSem PSem PCall GCall MCall Round Weak dloadE OW DWl Tells Retold ESem

def stepU (x : Int) : Int := IntKind.u64.wrap (IntKind.u64.wrap (x * 6364136223846793005) + 1442695040888963407)
def valU (x : Int) : Int := x.fdiv (2 ^ min (Int.toNat 33) IntKind.u64.bits)
def rowS (l : List Stp) : List DV := (l.map stpD).flatten
theorem rowS_cons (x : Stp) (l : List Stp) : rowS (x :: l) = stpD x ++ rowS l := rfl
theorem rowS_append (l m : List Stp) : rowS (l ++ m) = rowS l ++ rowS m := by simp [rowS]
theorem rowS_len (l : List Stp) : (rowS l).length = l.length * 6 := by
  induction l with
  | nil => rfl
  | cons a l ih => rw [rowS_cons, List.length_append, ih]; simp [stpD]; omega
theorem rowS_all (l : List Stp) : (rowS l).all noId1 = true := by
  induction l with
  | nil => rfl
  | cons a l ih => rw [rowS_cons, List.all_append, ih]; rfl
theorem rowS_push (l : List Stp) (p : Stp) : (rowS l).take (l.length * 6) ++ stpD p = rowS (l ++ [p]) := by
  rw [List.take_of_length_le (by rw [rowS_len]; exact Nat.le_refl _), rowS_append]; simp [rowS]
theorem stpsRow (l : List Stp) : ∀ r ∈ l.map stpD, r.length = 6 ∧ r.all isData1 = true := by
  intro r hr
  obtain ⟨x, _, rfl⟩ := List.mem_map.1 hr
  exact ⟨rfl, rfl⟩
theorem rowS_eq (l : List Stp) : rowS l = (l.map stpD).flatten := rfl
theorem pushS (P : List Stp) (x : Stp) : P.length + 1 = (P ++ [x]).length := by simp
def LSn (k : Nat) (x e : Int) (out : List Stp) : List (Nat × DObj) := [(0, ⟨30, 1, [u64 x]⟩), (1, ⟨62, 3, [.clo (.func 29) [] [.ref 0 0], int1 e, .arr k out.length]⟩), (k, ⟨34, 6, rowS out⟩)]
/-- The layer's objects: the seed, the layer, what it has laid. -/
def LS (k : Nat) (x e : Int) (out : List Stp) : Sto := .of (LSn k x e out) (k + 1)
set_option maxRecDepth 20000 in
theorem sr_b1 (P : List Stp) : P.length * Tryd.prog.types[34].size ≤ (rowS P).length := by
  show P.length * 6 ≤ _
  rw [rowS_len]; exact Nat.le_refl _
theorem sr_b3 {P : List Stp} (h : P.length ≤ 1000000) : P.length + 1 ≤ maxLen := by simp only [maxLen]; omega
set_option maxRecDepth 20000 in
theorem number50_S (x e : Int) (out : List Stp) : SCall Tryd.prog 50 [.ref 1 0] (LS 2 x e out) fun r s => r = u64 (valU (stepU x)) ∧ s = LS 2 (stepU x) e out := by
  refine SCall.retell (SCall.run Tryd.func50 rfl (Nat.le_of_ble_eq_true rfl) (by kernel_rfl) ?_)
  repeat' (first | with_reducible rfl | ((conv => whnf); first | refine And.intro ?_ ?_ | (intro h; first | with_reducible exact tf_no h | with_reducible exact ft_no h | exact Bool.noConfusion h | with_reducible exact h | (have ht : true = true := h; clear ht h) | skip) | ((with_reducible refine DWl.mark ?_); repeat' (first | refine DWl.cons ?_ ?_ | exact DWl.nil | exact DW.same _ rfl | exact DW.ref _ _ _ rfl | exact DW.arr _ _ _ rfl | exact DW.sub _ _ _ _ rfl | exact DW.nilLst _ | refine DW.aggl ?_ | refine DW.tupl ?_ | refine DW.clol ?_ ?_ | refine DW.int ?_ | refine DW.bool ?_ | refine DW.str ?_)) | ((with_reducible refine SCall.mark ?_); first | refine SCall.run Tryd.func29 rfl (Nat.le_of_ble_eq_true rfl) (by kernel_rfl) ?_ | refine SCall.run Tryd.func30 rfl (Nat.le_of_ble_eq_true rfl) (by kernel_rfl) ?_) | ((with_reducible refine ECall.mark ?_); first | refine ECall.only ?_ (fun h => nomatch h) | refine ECall.only ?_ ?_) | ((with_reducible refine Drawn.mark ?_); first | refine Drawn.quiet (by kernel_rfl) ?_) | refine dcell_ok rfl ?_ | refine AppC.new ?_))
  all_goals first | (with_reducible refine enters_mark ?_; kernel_rfl) | (with_reducible refine boolT_mark ?_; kernel_rfl) | rfl | trivial | assumption | exact Nat.le_of_ble_eq_true rfl | (show entersB _ _ = true; kernel_rfl) | exact DW.same _ rfl | exact DW.ref _ _ _ rfl | exact DW.arr _ _ _ rfl | refine DW.int ?_ | refine dvb ?_ | refine dvi ?_ | exact OW.cells rfl rfl (DWl.same rfl) | exact Nat.zero_le _ | omega | skip
  all_goals repeat' (first | refine OW.cells rfl rfl ?_ | exact DW.nilArr _ rfl | refine DWl.cons ?_ ?_ | exact DWl.nil | exact DW.same _ rfl | exact DW.ref _ _ _ rfl | exact DW.arr _ _ _ rfl | exact DW.sub _ _ _ _ rfl | exact DW.nilLst _ | refine DW.aggl ?_ | refine DW.tupl ?_ | refine DW.clol ?_ ?_)
  all_goals try ((conv => whnf); with_reducible first | refine Round.mark ?_ | refine Tells.mark ?_ | refine Retold.mark ?_)
  all_goals try first | (show (_ : Bool) = _; simp_all; done) | (show (_ : Int) < _; simp at *; omega) | (show (_ : Int) ≤ _; simp at *; omega) | (show (_ : Nat) < _; simp at *; omega) | (show (_ : Nat) ≤ _; simp at *; omega)
  refine Retold.list [] [] _ (LSn 2 (stepU x) e out) 3 (by kernel_rfl) ?_ ?_ ⟨rfl, rfl⟩
  · exact DW.int rfl
  · repeat' (first | exact OW.same rfl rfl rfl (rowS_all _) | exact OW.cells rfl rfl (DWl.cons (DW.int rfl) DWl.nil) | exact OW.cells rfl rfl (DWl.cons (DW.clol DWl.nil (DWl.cons (DW.ref _ _ _ rfl) DWl.nil)) (DWl.cons (DW.same _ rfl) (DWl.cons (DW.arr _ _ _ rfl) DWl.nil))) | ((conv => whnf); first | refine And.intro ?_ ?_ | trivial))
set_option maxRecDepth 20000 in
theorem put33_S (x e : Int) (out : List Stp) (p : Stp) (h : out.length ≤ 1000000) : SCall Tryd.prog 33 [.ref 1 0, .agg (stpD p)] (LS 2 x e out) fun r s => r = .tup [] ∧ s = LS 3 x e (out ++ [p]) := by
  refine SCall.retell (SCall.run Tryd.func33 rfl (Nat.le_of_ble_eq_true rfl) (by kernel_rfl) ?_)
  repeat' (first | with_reducible rfl | ((conv => whnf); first | refine And.intro ?_ ?_ | (intro h; first | with_reducible exact tf_no h | with_reducible exact ft_no h | exact Bool.noConfusion h | with_reducible exact h | (have ht : true = true := h; clear ht h) | skip) | ((with_reducible refine DWl.mark ?_); repeat' (first | refine DWl.cons ?_ ?_ | exact DWl.nil | exact DW.same _ rfl | exact DW.ref _ _ _ rfl | exact DW.arr _ _ _ rfl | exact DW.sub _ _ _ _ rfl | exact DW.nilLst _ | refine DW.aggl ?_ | refine DW.tupl ?_ | refine DW.clol ?_ ?_ | refine DW.int ?_ | refine DW.bool ?_ | refine DW.str ?_)) | ((with_reducible refine Tri.mark ?_); first | (refine Tri.treeX [1, 2] (MX.mv 0 0 (MX.mv 0 1 (MX.mv 0 2 (MX.mv 0 3 (MX.mv 0 5 (MX.two 1 4 (MX.mv 1 6 (MX.mv 1 7 (MX.mv 1 8 (MX.mv 1 9 (MX.mv 1 10 MX.done))))) 1 6 (MX.mv 1 4 (MX.mv 1 7 (MX.mv 1 8 (MX.mv 1 9 (MX.mv 1 10 MX.done))))))))))) ?_ (by kernel_rfl) ?_; rfl)) | ((with_reducible refine ECall.mark ?_); first | refine ECall.only ?_ (fun h => nomatch h) | refine ECall.only ?_ ?_) | ((with_reducible refine Drawn.mark ?_); first | (refine Drawn.tree ?_; refine Tri.treeX [1, 2] (MX.mv 0 0 (MX.mv 0 1 (MX.mv 0 2 (MX.mv 0 3 (MX.mv 0 5 (MX.two 1 4 (MX.mv 1 6 (MX.mv 1 7 (MX.mv 1 8 (MX.mv 1 9 (MX.mv 1 10 MX.done))))) 1 6 (MX.mv 1 4 (MX.mv 1 7 (MX.mv 1 8 (MX.mv 1 9 (MX.mv 1 10 MX.done))))))))))) ?_ (by kernel_rfl) ?_; rfl) | refine Drawn.quiet (by kernel_rfl) ?_) | refine dcell_ok rfl ?_ | refine AppC.new ?_))
  all_goals first | (with_reducible refine enters_mark ?_; kernel_rfl) | (with_reducible refine boolT_mark ?_; kernel_rfl) | rfl | trivial | assumption | exact Nat.le_of_ble_eq_true rfl | (show entersB _ _ = true; kernel_rfl) | exact DW.same _ rfl | exact DW.ref _ _ _ rfl | exact DW.arr _ _ _ rfl | refine DW.int ?_ | refine dvb ?_ | refine dvi ?_ | exact OW.cells rfl rfl (DWl.same rfl) | exact Nat.zero_le _ | omega | skip
  all_goals repeat' (first | refine OW.cells rfl rfl ?_ | exact DW.nilArr _ rfl | refine DWl.cons ?_ ?_ | exact DWl.nil | exact DW.same _ rfl | exact DW.ref _ _ _ rfl | exact DW.arr _ _ _ rfl | exact DW.sub _ _ _ _ rfl | exact DW.nilLst _ | refine DW.aggl ?_ | refine DW.tupl ?_ | refine DW.clol ?_ ?_)
  all_goals try ((conv => whnf); with_reducible first | refine Round.mark ?_ | refine Tells.mark ?_ | refine Retold.mark ?_)
  all_goals try first | (show (_ : Bool) = _; simp_all; done) | (show (_ : Int) < _; simp at *; omega) | (show (_ : Int) ≤ _; simp at *; omega) | (show (_ : Nat) < _; simp at *; omega) | (show (_ : Nat) ≤ _; simp at *; omega)
  · exact sr_b1 _
  · exact sr_b3 h
  · refine Retold.list [(3, some 5)] [] _ (LSn 3 x e (out ++ [p])) 4 (by kernel_rfl) ?_ ?_ ⟨rfl, rfl⟩
    · exact DW.tupl DWl.nil
    · repeat' (first | exact OW.cells rfl rfl (DWl.eq (rowS_push out p) (rowS_all _)) | exact OW.cells rfl rfl (DWl.cons (DW.int rfl) DWl.nil) | exact OW.cells rfl rfl (DWl.cons (DW.clol DWl.nil (DWl.cons (DW.ref _ _ _ rfl) DWl.nil)) (DWl.cons (DW.same _ rfl) (DWl.cons (DW.arrE rfl (pushS out p)) DWl.nil))) | ((conv => whnf); first | refine And.intro ?_ ?_ | trivial))
  · exact sr_b1 _
  · exact sr_b3 h
  · refine Retold.list [(3, some 5)] [] _ (LSn 3 x e (out ++ [p])) 4 (by kernel_rfl) ?_ ?_ ⟨rfl, rfl⟩
    · exact DW.tupl DWl.nil
    · repeat' (first | exact OW.cells rfl rfl (DWl.eq (rowS_push out p) (rowS_all _)) | exact OW.cells rfl rfl (DWl.cons (DW.int rfl) DWl.nil) | exact OW.cells rfl rfl (DWl.cons (DW.clol DWl.nil (DWl.cons (DW.ref _ _ _ rfl) DWl.nil)) (DWl.cons (DW.same _ rfl) (DWl.cons (DW.arrE rfl (pushS out p)) DWl.nil))) | ((conv => whnf); first | refine And.intro ?_ ?_ | trivial))
end Go.Proofs.YtgaghkchdiepoaaDoor

/- What ends and what begins ahead of a step, by the program. -/
namespace Go.Proofs.YtgaghkchdiepoaaDoor
open Go.RowKit Go.Dl
attribute [local irreducible] Tri SCall TSem ECall Drawn DFun QSem PSem PCall GCall MCall Round Weak dloadE OW DWl Tells IntKind.wrap Retold ESem

def mk (kind a b n : Int) : Stp := ⟨kind, a, b, ByteArray.empty, 0, n⟩
def healT (i n : Int) (m : Mx) : List Stp :=
  if m.til ≤ m.fr ∨ n ≤ m.fr ∨ i ≠ min m.til n then [] else if m.kind = 4 then [mk 15 m.a m.b 0] else if m.kind = 5 then [mk 11 m.a 0 (-1)] else []
def kindR (k : Int) : Int := if k = 1 then 8 else if k = 2 then 9 else if k = 3 then 7 else 0
def harmT (i n : Int) (m : Mx) (x : Int) : List Stp × Int :=
  if i = n ∨ m.til ≤ m.fr then ([], x)
  else if m.kind = 4 then (if i = m.fr then [mk 14 m.a m.b 0] else [], x)
  else if m.kind = 5 then (if i = m.fr then [mk 10 m.a 0 0] else [], x)
  else if i < m.fr ∨ m.til ≤ i then ([], x)
  else if m.rate ≤ valU (stepU x) % 1000 then ([], stepU x)
  else ([mk (kindR m.kind) 0 0 (valU (stepU (stepU x)))], stepU (stepU x))
def idleB (e : Int) (m : Mx) : Bool := bif m.fr == m.til then true else decide (e ≤ m.fr)
set_option maxRecDepth 20000 in
theorem idle48_S (x e : Int) (out : List Stp) (m : Mx) : SCall Tryd.prog 48 [.ref 1 0, .agg (mxD m)] (LS 2 x e out) fun r s => r = bl (idleB e m) ∧ s = LS 2 x e out := by
  refine SCall.retell (SCall.run Tryd.func48 rfl (Nat.le_of_ble_eq_true rfl) (by kernel_rfl) ?_)
  repeat' (first | with_reducible rfl | ((conv => whnf); first | refine And.intro ?_ ?_ | (intro h; first | with_reducible exact tf_no h | with_reducible exact ft_no h | exact Bool.noConfusion h | with_reducible exact h | (have ht : true = true := h; clear ht h) | skip) | ((with_reducible refine DWl.mark ?_); repeat' (first | refine DWl.cons ?_ ?_ | exact DWl.nil | exact DW.same _ rfl | exact DW.ref _ _ _ rfl | exact DW.arr _ _ _ rfl | exact DW.sub _ _ _ _ rfl | exact DW.nilLst _ | refine DW.aggl ?_ | refine DW.tupl ?_ | refine DW.clol ?_ ?_ | refine DW.int ?_ | refine DW.bool ?_ | refine DW.str ?_)) | ((with_reducible refine ECall.mark ?_); first | refine ECall.only ?_ (fun h => nomatch h) | refine ECall.only ?_ ?_) | ((with_reducible refine Drawn.mark ?_); first | refine Drawn.quiet (by kernel_rfl) ?_) | refine dcell_ok rfl ?_ | refine AppC.new ?_))
  all_goals first | (with_reducible refine enters_mark ?_; kernel_rfl) | (with_reducible refine boolT_mark ?_; kernel_rfl) | rfl | trivial | assumption | exact Nat.le_of_ble_eq_true rfl | (show entersB _ _ = true; kernel_rfl) | exact DW.same _ rfl | exact DW.ref _ _ _ rfl | exact DW.arr _ _ _ rfl | refine DW.int ?_ | refine dvb ?_ | refine dvi ?_ | exact OW.cells rfl rfl (DWl.same rfl) | exact Nat.zero_le _ | omega | skip
  all_goals repeat' (first | refine OW.cells rfl rfl ?_ | exact DW.nilArr _ rfl | refine DWl.cons ?_ ?_ | exact DWl.nil | exact DW.same _ rfl | exact DW.ref _ _ _ rfl | exact DW.arr _ _ _ rfl | exact DW.sub _ _ _ _ rfl | exact DW.nilLst _ | refine DW.aggl ?_ | refine DW.tupl ?_ | refine DW.clol ?_ ?_)
  all_goals try ((conv => whnf); with_reducible first | refine Round.mark ?_ | refine Tells.mark ?_ | refine Retold.mark ?_)
  all_goals try first | (show (_ : Bool) = _; simp_all; done) | (show (_ : Int) < _; simp at *; omega) | (show (_ : Int) ≤ _; simp at *; omega) | (show (_ : Nat) < _; simp at *; omega) | (show (_ : Nat) ≤ _; simp at *; omega)
  refine Retold.list [] [] _ (LSn 2 x e out) 3 (by kernel_rfl) ?_ ?_ ⟨rfl, rfl⟩
  · exact DW.bool rfl
  · repeat' (first | exact OW.same rfl rfl rfl (rowS_all _) | exact OW.cells rfl rfl (DWl.cons (DW.int rfl) DWl.nil) | exact OW.cells rfl rfl (DWl.cons (DW.clol DWl.nil (DWl.cons (DW.ref _ _ _ rfl) DWl.nil)) (DWl.cons (DW.same _ rfl) (DWl.cons (DW.arr _ _ _ rfl) DWl.nil))) | ((conv => whnf); first | refine And.intro ?_ ?_ | trivial))
end Go.Proofs.YtgaghkchdiepoaaDoor

/- What ends ahead of a step, by the program. -/
namespace Go.Proofs.YtgaghkchdiepoaaDoor
open Go.RowKit Go.Dl
attribute [local irreducible] Tri SCall TSem ECall Drawn DFun QSem PSem PCall GCall MCall Round Weak dloadE OW DWl Tells IntKind.wrap Retold ESem
theorem nil_app {out p : List Stp} (h : p = []) : out = out ++ p := by rw [h, List.append_nil]
theorem heal_no {i e : Int} {m : Mx} (_hm : m.fr ≤ m.til) (h : (bif bif m.fr == m.til then true else decide (e ≤ m.fr) then true else i != if e < m.til then e else m.til) = true) : healT i e m = [] := by
  unfold healT
  rw [if_pos]
  simp only [Bool.cond_true_left, Bool.or_eq_true, beq_iff_eq, decide_eq_true_eq, bne_iff_ne] at h
  rw [Int.min_def]
  split at h <;> split <;> omega
theorem heal_in {i e : Int} {m : Mx} (hm : m.fr ≤ m.til) (h : (bif bif m.fr == m.til then true else decide (e ≤ m.fr) then true else i != if e < m.til then e else m.til) = false) : ¬ (m.til ≤ m.fr ∨ e ≤ m.fr ∨ i ≠ min m.til e) := by
  simp only [Bool.cond_true_left, Bool.or_eq_false_iff, beq_eq_false_iff_ne, decide_eq_false_iff_not, bne_eq_false_iff_eq, ne_eq] at h
  rw [Int.min_def]
  split at h <;> split <;> omega
theorem heal_4 {i e : Int} {m : Mx} (hm : ¬ (m.til ≤ m.fr ∨ e ≤ m.fr ∨ i ≠ min m.til e)) (h4 : m.kind = 4) : healT i e m = [mk 15 m.a m.b 0] := by unfold healT; rw [if_neg hm, if_pos h4]
theorem heal_5 {i e : Int} {m : Mx} (hm : ¬ (m.til ≤ m.fr ∨ e ≤ m.fr ∨ i ≠ min m.til e)) (h4 : m.kind = 5) : healT i e m = [mk 11 m.a 0 (-1)] := by unfold healT; rw [if_neg hm, if_neg (by omega), if_pos h4]
theorem heal_0 {i e : Int} {m : Mx} (h4 : ¬ m.kind = 4) (h5 : ¬ m.kind = 5) : healT i e m = [] := by
  unfold healT; rw [if_neg h4, if_neg h5]; split <;> rfl
set_option maxRecDepth 20000 in
theorem heals31_S (x e i : Int) (out : List Stp) (m : Mx) (hm : m.fr ≤ m.til) (h0 : out.length ≤ 999999) : SCall Tryd.prog 31 [.ref 1 0, .agg (mxD m), int1 i] (LS 2 x e out) fun r s => r = .tup [] ∧ s = LS 3 x e (out ++ healT i e m) := by
  by_cases h4 : m.kind = 4
  · refine SCall.retell (SCall.run Tryd.func31 rfl (Nat.le_of_ble_eq_true rfl) (by kernel_rfl) ?_)
    repeat' (first | with_reducible rfl | ((conv => whnf); first | refine And.intro ?_ ?_ | (intro h; first | with_reducible exact tf_no h | with_reducible exact ft_no h | exact Bool.noConfusion h | with_reducible exact h | (exfalso; simp [h4] at h; done) | (have ht : true = true := h; clear ht h) | skip) | ((with_reducible refine DWl.mark ?_); repeat' (first | refine DWl.cons ?_ ?_ | exact DWl.nil | exact DW.same _ rfl | exact DW.ref _ _ _ rfl | exact DW.arr _ _ _ rfl | exact DW.sub _ _ _ _ rfl | exact DW.nilLst _ | refine DW.aggl ?_ | refine DW.tupl ?_ | refine DW.clol ?_ ?_ | refine DW.int ?_ | refine DW.bool ?_ | refine DW.str ?_)) | ((with_reducible refine SCall.mark ?_); first | refine SCall.run Tryd.func48 rfl (Nat.le_of_ble_eq_true rfl) (by kernel_rfl) ?_ | refine SCall.at [0, 1, 2] (fun n => LSn n x e (out ++ [mk 15 m.a m.b 0])) (fun _ => .tup []) 1 (put33_S x e out (mk 15 m.a m.b 0) (by omega)) (by kernel_rfl) ?_ ?_ ?_ ?_ ?_) | ((with_reducible refine Tri.mark ?_); first | (refine Tri.treeX [1] (MX.mv 0 0 (MX.mv 0 1 (MX.mv 2 2 (MX.mv 0 3 (MX.mv 0 4 (MX.mv 0 5 (MX.mv 0 6 (MX.mv 0 7 (MX.mv 0 8 (MX.mv 0 9 (MX.mv 0 10 (MX.mv 1 11 (MX.mv 0 12 (MX.mv 0 13 (MX.mv 0 14 MX.done))))))))))))))) ?_ (by kernel_rfl) ?_; rfl)) | ((with_reducible refine ECall.mark ?_); first | refine ECall.only ?_ (fun h => nomatch h) | refine ECall.only ?_ ?_) | ((with_reducible refine Drawn.mark ?_); first | (refine Drawn.tree ?_; refine Tri.treeX [1] (MX.mv 0 0 (MX.mv 0 1 (MX.mv 2 2 (MX.mv 0 3 (MX.mv 0 4 (MX.mv 0 5 (MX.mv 0 6 (MX.mv 0 7 (MX.mv 0 8 (MX.mv 0 9 (MX.mv 0 10 (MX.mv 1 11 (MX.mv 0 12 (MX.mv 0 13 (MX.mv 0 14 MX.done))))))))))))))) ?_ (by kernel_rfl) ?_; rfl) | refine Drawn.quiet (by kernel_rfl) ?_) | refine dcell_ok rfl ?_ | refine AppC.new ?_))
    all_goals first | (with_reducible refine enters_mark ?_; kernel_rfl) | (with_reducible refine boolT_mark ?_; kernel_rfl) | rfl | trivial | assumption | exact Nat.le_of_ble_eq_true rfl | (show entersB _ _ = true; kernel_rfl) | exact DW.same _ rfl | exact DW.ref _ _ _ rfl | exact DW.arr _ _ _ rfl | refine DW.int ?_ | refine dvb ?_ | refine dvi ?_ | exact OW.cells rfl rfl (DWl.same rfl) | exact Nat.zero_le _ | omega | skip
    all_goals repeat' (first | refine OW.cells rfl rfl ?_ | exact DW.nilArr _ rfl | refine DWl.cons ?_ ?_ | exact DWl.nil | exact DW.same _ rfl | exact DW.ref _ _ _ rfl | exact DW.arr _ _ _ rfl | exact DW.sub _ _ _ _ rfl | exact DW.nilLst _ | refine DW.aggl ?_ | refine DW.tupl ?_ | refine DW.clol ?_ ?_)
    all_goals try ((conv => whnf); with_reducible first | refine Round.mark ?_ | refine Tells.mark ?_ | refine Retold.mark ?_)
    all_goals try first | (show (_ : Bool) = _; simp_all; done) | (show (_ : Int) < _; simp at *; omega) | (show (_ : Int) ≤ _; simp at *; omega) | (show (_ : Nat) < _; simp at *; omega) | (show (_ : Nat) ≤ _; simp at *; omega)
    · refine Retold.list [(3, some 2)] [] _ (LSn 3 x e (out ++ healT i e m)) 4 (by kernel_rfl) ?_ ?_ ⟨rfl, rfl⟩
      · exact DW.tupl DWl.nil
      · repeat' (first | exact OW.cells rfl rfl (DWl.eq (congrArg rowS (nil_app (heal_no hm h))) (rowS_all _)) | exact OW.cells rfl rfl (DWl.cons (DW.int (rfl)) DWl.nil) | exact OW.cells rfl rfl (DWl.cons (DW.clol DWl.nil (DWl.cons (DW.ref _ _ _ rfl) DWl.nil)) (DWl.cons (DW.same _ rfl) (DWl.cons (DW.arrE rfl (congrArg List.length (nil_app (heal_no hm h)))) DWl.nil))) | ((conv => whnf); first | refine And.intro ?_ ?_ | trivial))
    · exact DWl.same (rowS_all _)
    · exact DWl.same (rowS_all _)
    · refine Retold.list [(3, some 5)] [] _ (LSn 3 x e (out ++ healT i e m)) 4 (by kernel_rfl) ?_ ?_ ⟨rfl, rfl⟩
      · exact DW.tupl DWl.nil
      · repeat' (first | exact OW.cells rfl rfl (DWl.eq (congrArg rowS (congrArg (out ++ ·) (heal_4 (heal_in hm ‹(bif bif m.fr == m.til then true else decide (e ≤ m.fr) then true else i != if e < m.til then e else m.til) = false›) h4).symm)) (rowS_all _)) | exact OW.cells rfl rfl (DWl.cons (DW.int (rfl)) DWl.nil) | exact OW.cells rfl rfl (DWl.cons (DW.clol DWl.nil (DWl.cons (DW.ref _ _ _ rfl) DWl.nil)) (DWl.cons (DW.same _ rfl) (DWl.cons (DW.arrE rfl (congrArg List.length (congrArg (out ++ ·) (heal_4 (heal_in hm ‹(bif bif m.fr == m.til then true else decide (e ≤ m.fr) then true else i != if e < m.til then e else m.til) = false›) h4).symm))) DWl.nil))) | ((conv => whnf); first | refine And.intro ?_ ?_ | trivial))
  by_cases h5 : m.kind = 5
  · refine SCall.retell (SCall.run Tryd.func31 rfl (Nat.le_of_ble_eq_true rfl) (by kernel_rfl) ?_)
    repeat' (first | with_reducible rfl | ((conv => whnf); first | refine And.intro ?_ ?_ | (intro h; first | with_reducible exact tf_no h | with_reducible exact ft_no h | exact Bool.noConfusion h | with_reducible exact h | (exfalso; simp [h5] at h; done) | (have ht : true = true := h; clear ht h) | skip) | ((with_reducible refine DWl.mark ?_); repeat' (first | refine DWl.cons ?_ ?_ | exact DWl.nil | exact DW.same _ rfl | exact DW.ref _ _ _ rfl | exact DW.arr _ _ _ rfl | exact DW.sub _ _ _ _ rfl | exact DW.nilLst _ | refine DW.aggl ?_ | refine DW.tupl ?_ | refine DW.clol ?_ ?_ | refine DW.int ?_ | refine DW.bool ?_ | refine DW.str ?_)) | ((with_reducible refine SCall.mark ?_); first | refine SCall.run Tryd.func48 rfl (Nat.le_of_ble_eq_true rfl) (by kernel_rfl) ?_ | refine SCall.at [0, 1, 2] (fun n => LSn n x e (out ++ [mk 11 m.a 0 (-1)])) (fun _ => .tup []) 1 (put33_S x e out (mk 11 m.a 0 (-1)) (by omega)) (by kernel_rfl) ?_ ?_ ?_ ?_ ?_) | ((with_reducible refine Tri.mark ?_); first | (refine Tri.treeX [1] (MX.mv 0 0 (MX.mv 0 1 (MX.mv 2 2 (MX.mv 0 3 (MX.mv 0 4 (MX.mv 0 5 (MX.mv 0 6 (MX.mv 0 7 (MX.mv 0 8 (MX.mv 0 9 (MX.mv 0 10 (MX.mv 1 11 (MX.mv 0 12 (MX.mv 0 13 (MX.mv 0 14 MX.done))))))))))))))) ?_ (by kernel_rfl) ?_; rfl)) | ((with_reducible refine ECall.mark ?_); first | refine ECall.only ?_ (fun h => nomatch h) | refine ECall.only ?_ ?_) | ((with_reducible refine Drawn.mark ?_); first | (refine Drawn.tree ?_; refine Tri.treeX [1] (MX.mv 0 0 (MX.mv 0 1 (MX.mv 2 2 (MX.mv 0 3 (MX.mv 0 4 (MX.mv 0 5 (MX.mv 0 6 (MX.mv 0 7 (MX.mv 0 8 (MX.mv 0 9 (MX.mv 0 10 (MX.mv 1 11 (MX.mv 0 12 (MX.mv 0 13 (MX.mv 0 14 MX.done))))))))))))))) ?_ (by kernel_rfl) ?_; rfl) | refine Drawn.quiet (by kernel_rfl) ?_) | refine dcell_ok rfl ?_ | refine AppC.new ?_))
    all_goals first | (with_reducible refine enters_mark ?_; kernel_rfl) | (with_reducible refine boolT_mark ?_; kernel_rfl) | rfl | trivial | assumption | exact Nat.le_of_ble_eq_true rfl | (show entersB _ _ = true; kernel_rfl) | exact DW.same _ rfl | exact DW.ref _ _ _ rfl | exact DW.arr _ _ _ rfl | refine DW.int ?_ | refine dvb ?_ | refine dvi ?_ | exact OW.cells rfl rfl (DWl.same rfl) | exact Nat.zero_le _ | omega | skip
    all_goals repeat' (first | refine OW.cells rfl rfl ?_ | exact DW.nilArr _ rfl | refine DWl.cons ?_ ?_ | exact DWl.nil | exact DW.same _ rfl | exact DW.ref _ _ _ rfl | exact DW.arr _ _ _ rfl | exact DW.sub _ _ _ _ rfl | exact DW.nilLst _ | refine DW.aggl ?_ | refine DW.tupl ?_ | refine DW.clol ?_ ?_)
    all_goals try ((conv => whnf); with_reducible first | refine Round.mark ?_ | refine Tells.mark ?_ | refine Retold.mark ?_)
    all_goals try first | (show (_ : Bool) = _; simp_all; done) | (show (_ : Int) < _; simp at *; omega) | (show (_ : Int) ≤ _; simp at *; omega) | (show (_ : Nat) < _; simp at *; omega) | (show (_ : Nat) ≤ _; simp at *; omega)
    · refine Retold.list [(3, some 2)] [] _ (LSn 3 x e (out ++ healT i e m)) 4 (by kernel_rfl) ?_ ?_ ⟨rfl, rfl⟩
      · exact DW.tupl DWl.nil
      · repeat' (first | exact OW.cells rfl rfl (DWl.eq (congrArg rowS (nil_app (heal_no hm h))) (rowS_all _)) | exact OW.cells rfl rfl (DWl.cons (DW.int (rfl)) DWl.nil) | exact OW.cells rfl rfl (DWl.cons (DW.clol DWl.nil (DWl.cons (DW.ref _ _ _ rfl) DWl.nil)) (DWl.cons (DW.same _ rfl) (DWl.cons (DW.arrE rfl (congrArg List.length (nil_app (heal_no hm h)))) DWl.nil))) | ((conv => whnf); first | refine And.intro ?_ ?_ | trivial))
    · exact DWl.same (rowS_all _)
    · exact DWl.same (rowS_all _)
    · refine Retold.list [(3, some 5)] [] _ (LSn 3 x e (out ++ healT i e m)) 4 (by kernel_rfl) ?_ ?_ ⟨rfl, rfl⟩
      · exact DW.tupl DWl.nil
      · repeat' (first | exact OW.cells rfl rfl (DWl.eq (congrArg rowS (congrArg (out ++ ·) (heal_5 (heal_in hm ‹(bif bif m.fr == m.til then true else decide (e ≤ m.fr) then true else i != if e < m.til then e else m.til) = false›) h5).symm)) (rowS_all _)) | exact OW.cells rfl rfl (DWl.cons (DW.int (rfl)) DWl.nil) | exact OW.cells rfl rfl (DWl.cons (DW.clol DWl.nil (DWl.cons (DW.ref _ _ _ rfl) DWl.nil)) (DWl.cons (DW.same _ rfl) (DWl.cons (DW.arrE rfl (congrArg List.length (congrArg (out ++ ·) (heal_5 (heal_in hm ‹(bif bif m.fr == m.til then true else decide (e ≤ m.fr) then true else i != if e < m.til then e else m.til) = false›) h5).symm))) DWl.nil))) | ((conv => whnf); first | refine And.intro ?_ ?_ | trivial))
  · refine SCall.retell (SCall.run Tryd.func31 rfl (Nat.le_of_ble_eq_true rfl) (by kernel_rfl) ?_)
    repeat' (first | with_reducible rfl | ((conv => whnf); first | refine And.intro ?_ ?_ | (intro h; first | with_reducible exact tf_no h | with_reducible exact ft_no h | exact Bool.noConfusion h | with_reducible exact h | (exfalso; simp [h4, h5] at h; done) | (have ht : true = true := h; clear ht h) | skip) | ((with_reducible refine DWl.mark ?_); repeat' (first | refine DWl.cons ?_ ?_ | exact DWl.nil | exact DW.same _ rfl | exact DW.ref _ _ _ rfl | exact DW.arr _ _ _ rfl | exact DW.sub _ _ _ _ rfl | exact DW.nilLst _ | refine DW.aggl ?_ | refine DW.tupl ?_ | refine DW.clol ?_ ?_ | refine DW.int ?_ | refine DW.bool ?_ | refine DW.str ?_)) | ((with_reducible refine SCall.mark ?_); first | refine SCall.run Tryd.func48 rfl (Nat.le_of_ble_eq_true rfl) (by kernel_rfl) ?_) | ((with_reducible refine Tri.mark ?_); first | (refine Tri.treeX [1] (MX.mv 0 0 (MX.mv 0 1 (MX.mv 2 2 (MX.mv 0 3 (MX.mv 0 4 (MX.mv 0 5 (MX.mv 0 6 (MX.mv 0 7 (MX.mv 0 8 (MX.mv 0 9 (MX.mv 0 10 (MX.mv 1 11 (MX.mv 0 12 (MX.mv 0 13 (MX.mv 0 14 MX.done))))))))))))))) ?_ (by kernel_rfl) ?_; rfl)) | ((with_reducible refine ECall.mark ?_); first | refine ECall.only ?_ (fun h => nomatch h) | refine ECall.only ?_ ?_) | ((with_reducible refine Drawn.mark ?_); first | (refine Drawn.tree ?_; refine Tri.treeX [1] (MX.mv 0 0 (MX.mv 0 1 (MX.mv 2 2 (MX.mv 0 3 (MX.mv 0 4 (MX.mv 0 5 (MX.mv 0 6 (MX.mv 0 7 (MX.mv 0 8 (MX.mv 0 9 (MX.mv 0 10 (MX.mv 1 11 (MX.mv 0 12 (MX.mv 0 13 (MX.mv 0 14 MX.done))))))))))))))) ?_ (by kernel_rfl) ?_; rfl) | refine Drawn.quiet (by kernel_rfl) ?_) | refine dcell_ok rfl ?_ | refine AppC.new ?_))
    all_goals first | (with_reducible refine enters_mark ?_; kernel_rfl) | (with_reducible refine boolT_mark ?_; kernel_rfl) | rfl | trivial | assumption | exact Nat.le_of_ble_eq_true rfl | (show entersB _ _ = true; kernel_rfl) | exact DW.same _ rfl | exact DW.ref _ _ _ rfl | exact DW.arr _ _ _ rfl | refine DW.int ?_ | refine dvb ?_ | refine dvi ?_ | exact OW.cells rfl rfl (DWl.same rfl) | exact Nat.zero_le _ | omega | skip
    all_goals repeat' (first | refine OW.cells rfl rfl ?_ | exact DW.nilArr _ rfl | refine DWl.cons ?_ ?_ | exact DWl.nil | exact DW.same _ rfl | exact DW.ref _ _ _ rfl | exact DW.arr _ _ _ rfl | exact DW.sub _ _ _ _ rfl | exact DW.nilLst _ | refine DW.aggl ?_ | refine DW.tupl ?_ | refine DW.clol ?_ ?_)
    all_goals try ((conv => whnf); with_reducible first | refine Round.mark ?_ | refine Tells.mark ?_ | refine Retold.mark ?_)
    all_goals try first | (show (_ : Bool) = _; simp_all; done) | (show (_ : Int) < _; simp at *; omega) | (show (_ : Int) ≤ _; simp at *; omega) | (show (_ : Nat) < _; simp at *; omega) | (show (_ : Nat) ≤ _; simp at *; omega)
    · refine Retold.list [(3, some 2)] [] _ (LSn 3 x e (out ++ healT i e m)) 4 (by kernel_rfl) ?_ ?_ ⟨rfl, rfl⟩
      · exact DW.tupl DWl.nil
      · repeat' (first | exact OW.cells rfl rfl (DWl.eq (congrArg rowS (nil_app (heal_no hm h))) (rowS_all _)) | exact OW.cells rfl rfl (DWl.cons (DW.int (rfl)) DWl.nil) | exact OW.cells rfl rfl (DWl.cons (DW.clol DWl.nil (DWl.cons (DW.ref _ _ _ rfl) DWl.nil)) (DWl.cons (DW.same _ rfl) (DWl.cons (DW.arrE rfl (congrArg List.length (nil_app (heal_no hm h)))) DWl.nil))) | ((conv => whnf); first | refine And.intro ?_ ?_ | trivial))
    · refine Retold.list [(3, some 2)] [] _ (LSn 3 x e (out ++ healT i e m)) 4 (by kernel_rfl) ?_ ?_ ⟨rfl, rfl⟩
      · exact DW.tupl DWl.nil
      · repeat' (first | exact OW.cells rfl rfl (DWl.eq (congrArg rowS (nil_app (heal_0 h4 h5))) (rowS_all _)) | exact OW.cells rfl rfl (DWl.cons (DW.int (rfl)) DWl.nil) | exact OW.cells rfl rfl (DWl.cons (DW.clol DWl.nil (DWl.cons (DW.ref _ _ _ rfl) DWl.nil)) (DWl.cons (DW.same _ rfl) (DWl.cons (DW.arrE rfl (congrArg List.length (nil_app (heal_0 h4 h5)))) DWl.nil))) | ((conv => whnf); first | refine And.intro ?_ ?_ | trivial))
end Go.Proofs.YtgaghkchdiepoaaDoor

/- What laying a plan gives, in plain words; and what holds of it. -/
namespace Go.Proofs.YtgaghkchdiepoaaDoor
open Go.RowKit Go.Dl

theorem kindR_in {k : Int} (h : 1 ≤ k ∧ k ≤ 5) (h4 : k ≠ 4) (h5 : k ≠ 5) : 7 ≤ kindR k ∧ kindR k ≤ 15 := by
  have : k = 1 ∨ k = 2 ∨ k = 3 := by omega
  rcases this with rfl | rfl | rfl <;> decide
theorem kindR_lt (k : Int) : kindR k < 10 := by
  unfold kindR
  split
  · decide
  · split
    · decide
    · split <;> decide
def healsF (i n : Int) (l : List Mx) (out : List Stp) : List Stp := l.foldl (fun o m => o ++ healT i n m) out
def harmsF (i n : Int) (l : List Mx) (s : List Stp × Int) : List Stp × Int := l.foldl (fun s m => (s.1 ++ (harmT i n m s.2).1, (harmT i n m s.2).2)) s
def putS (steps : List Stp) (i : Nat) (out : List Stp) : List Stp := if i < steps.length then out ++ [steps.getD i stp0] else out
def roundL (l : List Mx) (steps : List Stp) (i : Nat) (s : List Stp × Int) : List Stp × Int :=
  (putS steps i (harmsF i steps.length l (healsF i steps.length l s.1, s.2)).1, (harmsF i steps.length l (healsF i steps.length l s.1, s.2)).2)
def layK (l : List Mx) (steps : List Stp) (x : Int) : Nat → List Stp × Int
  | 0 => ([], x)
  | i + 1 => roundL l steps i (layK l steps x i)
def layT (l : List Mx) (steps : List Stp) (x : Int) : List Stp := (layK l steps x (steps.length + 1)).1

/-! ### Without entries, and with steps in their order -/
/-- How many steps of the kind. -/
def cnt (k : Int) (l : List Stp) : Nat := l.countP fun s => s.kind == k
theorem cnt_append (k : Int) (l m : List Stp) : cnt k (l ++ m) = cnt k l + cnt k m := List.countP_append

/-- 'out' is 'x' with steps of the kinds 7 to 15 put in. -/
structure Laid (x out : List Stp) (put : List Stp) : Prop where
  sub : x.Sublist out
  cn : ∀ k, cnt k out = cnt k x + cnt k put
  len : out.length = x.length + put.length
  kinds : ∀ s ∈ put, 7 ≤ s.kind ∧ s.kind ≤ 15

theorem Laid.nil : Laid [] [] [] := ⟨List.Sublist.refl _, fun _ => rfl, rfl, fun _ h => by cases h⟩
theorem Laid.add {x out put p : List Stp} (h : Laid x out put) (hp : ∀ s ∈ p, 7 ≤ s.kind ∧ s.kind ≤ 15) : Laid x (out ++ p) (put ++ p) :=
  ⟨h.sub.trans (List.sublist_append_left _ _), fun k => by rw [cnt_append, cnt_append, h.cn]; omega, by rw [List.length_append, List.length_append, h.len]; omega, fun s hs => by
    rcases List.mem_append.1 hs with h1 | h1
    · exact h.kinds s h1
    · exact hp s h1⟩
theorem Laid.step {x out put : List Stp} (h : Laid x out put) (s : Stp) : Laid (x ++ [s]) (out ++ [s]) put :=
  ⟨h.sub.append (List.Sublist.refl _), fun k => by rw [cnt_append, cnt_append, h.cn]; omega, by rw [List.length_append, List.length_append, h.len]; omega, h.kinds⟩

theorem heal_kind (i n : Int) (m : Mx) : ∀ s ∈ healT i n m, 7 ≤ s.kind ∧ s.kind ≤ 15 := by
  intro s hs
  unfold healT at hs
  split at hs
  · cases hs
  · split at hs
    · rw [List.mem_singleton] at hs; subst hs; simp only [mk]; omega
    · split at hs
      · rw [List.mem_singleton] at hs; subst hs; simp only [mk]; omega
      · cases hs
theorem harm_kind (i n : Int) (m : Mx) (hm : 1 ≤ m.kind ∧ m.kind ≤ 5) (x : Int) : ∀ s ∈ (harmT i n m x).1, 7 ≤ s.kind ∧ s.kind ≤ 15 := by
  intro s hs
  unfold harmT at hs
  split at hs
  · cases hs
  · split at hs
    · simp only at hs
      split at hs
      · rw [List.mem_singleton] at hs; subst hs; simp only [mk]; omega
      · cases hs
    · split at hs
      · simp only at hs
        split at hs
        · rw [List.mem_singleton] at hs; subst hs; simp only [mk]; omega
        · cases hs
      · split at hs
        · cases hs
        · split at hs
          · cases hs
          · rw [List.mem_singleton] at hs; subst hs
            simp only [mk]
            exact kindR_in hm (by omega) (by omega)

/-- How often the kind is put in by one entry ahead of step i: what matters of kinds 10, 11, 14, 15. -/
def hit (c : Bool) : Nat := if c then 1 else 0
theorem heal_cnt (i n : Int) (m : Mx) (k : Int) : cnt k (healT i n m) = hit (!decide (m.til ≤ m.fr ∨ n ≤ m.fr ∨ i ≠ min m.til n) && ((m.kind == 4 && k == 15) || (m.kind == 5 && k == 11))) := by
  unfold healT hit
  by_cases h : m.til ≤ m.fr ∨ n ≤ m.fr ∨ i ≠ min m.til n
  · simp [h, cnt]
  · by_cases h4 : m.kind = 4
    · by_cases hk : k = 15 <;> simp [h, h4, hk, cnt, mk, List.countP_cons] <;> omega
    · by_cases h5 : m.kind = 5
      · by_cases hk : k = 11 <;> simp [h, h5, hk, cnt, mk, List.countP_cons] <;> omega
      · simp [h, h4, h5, cnt]
theorem harm_cnt (i n : Int) (m : Mx) (x k : Int) (hk : 10 ≤ k) : cnt k (harmT i n m x).1 = hit (!decide (i = n ∨ m.til ≤ m.fr ∨ i ≠ m.fr) && ((m.kind == 4 && k == 14) || (m.kind == 5 && k == 10))) := by
  unfold harmT hit
  by_cases h : i = n ∨ m.til ≤ m.fr
  · have h' : i = n ∨ m.til ≤ m.fr ∨ i ≠ m.fr := by omega
    simp [h, h', cnt]
  · by_cases h4 : m.kind = 4
    · by_cases hf : i = m.fr
      · have h' : ¬ (i = n ∨ m.til ≤ m.fr ∨ i ≠ m.fr) := by omega
        rw [if_neg h, if_pos h4, decide_eq_false h']
        simp only [if_pos hf]
        by_cases hk : k = 14 <;> simp [h4, hk, cnt, mk, List.countP_cons] <;> omega
      · have h' : (i = n ∨ m.til ≤ m.fr ∨ i ≠ m.fr) := by omega
        rw [if_neg h, if_pos h4, decide_eq_true h']
        simp only [if_neg hf]
        simp [cnt]
    · by_cases h5 : m.kind = 5
      · by_cases hf : i = m.fr
        · have h' : ¬ (i = n ∨ m.til ≤ m.fr ∨ i ≠ m.fr) := by omega
          rw [if_neg h, if_neg h4, if_pos h5, decide_eq_false h']
          simp only [if_pos hf]
          by_cases hk : k = 10 <;> simp [h5, hk, cnt, mk, List.countP_cons] <;> omega
        · have h' : (i = n ∨ m.til ≤ m.fr ∨ i ≠ m.fr) := by omega
          rw [if_neg h, if_neg h4, if_pos h5, decide_eq_true h']
          simp only [if_neg hf]
          simp [cnt]
      · rw [if_neg h, if_neg h4, if_neg h5]
        have e : ((m.kind == 4 && k == 14) || (m.kind == 5 && k == 10)) = false := by simp [h4, h5]
        rw [e, Bool.and_false]
        split
        · rfl
        · split
          · rfl
          · rw [cnt, List.countP_cons, List.countP_nil]
            have := kindR_lt m.kind
            have e2 : (kindR m.kind == k) = false := by simp; omega
            show 0 + (if (kindR m.kind == k) = true then 1 else 0) = 0
            rw [e2]; rfl

/-! ### The sums -/
def sumN (f : Nat → Nat) : Nat → Nat
  | 0 => 0
  | i + 1 => sumN f i + f i
def sumM (f : Mx → Nat) (l : List Mx) : Nat := (l.map f).sum
theorem sumM_nil (f : Mx → Nat) : sumM f [] = 0 := rfl
theorem sumM_cons (f : Mx → Nat) (m : Mx) (l : List Mx) : sumM f (m :: l) = f m + sumM f l := by simp [sumM]
theorem sumN_zero (N : Nat) : sumN (fun _ => 0) N = 0 := by
  induction N with
  | zero => rfl
  | succ n ih => rw [sumN, ih]
theorem sumN_add (f g : Nat → Nat) (N : Nat) : sumN (fun i => f i + g i) N = sumN f N + sumN g N := by
  induction N with
  | zero => rfl
  | succ n ih => rw [sumN, sumN, sumN, ih]; omega
theorem sum_swap (g : Nat → Mx → Nat) (l : List Mx) (N : Nat) : sumN (fun i => sumM (g i) l) N = sumM (fun m => sumN (fun i => g i m) N) l := by
  induction l with
  | nil => exact sumN_zero N
  | cons m l ih =>
    rw [sumM_cons, ← ih, ← sumN_add]
    exact congrArg (sumN · N) (funext fun i => sumM_cons _ _ _)
theorem sumM_add (f g : Mx → Nat) (l : List Mx) : sumM (fun m => f m + g m) l = sumM f l + sumM g l := by
  induction l with
  | nil => rfl
  | cons m l ih => rw [sumM_cons, sumM_cons, sumM_cons, ih]; omega
theorem sumM_congr {f g : Mx → Nat} {l : List Mx} (h : ∀ m ∈ l, f m = g m) : sumM f l = sumM g l := by
  unfold sumM
  rw [List.map_congr_left h]
/-- One place alone. -/
theorem sumN_one (f : Nat → Nat) (c : Nat) (b : Bool) (N : Nat) (hf : ∀ i, i < N → f i = hit (decide (i = c) && b)) : sumN f N = hit (decide (c < N) && b) := by
  induction N with
  | zero => simp [sumN, hit]
  | succ n ih =>
    rw [sumN, ih (fun i hi => hf i (by omega)), hf n (by omega)]
    by_cases h1 : c < n
    · rw [decide_eq_true h1, decide_eq_true (show c < n + 1 by omega), decide_eq_false (show ¬ n = c by omega)]; simp [hit]
    · by_cases h2 : n = c
      · rw [decide_eq_false h1, decide_eq_true (show c < n + 1 by omega), decide_eq_true h2]; simp [hit]
      · rw [decide_eq_false h1, decide_eq_false (show ¬ c < n + 1 by omega), decide_eq_false h2]; simp [hit]

theorem heals_add (i n : Int) (l : List Mx) : ∀ {x out p : List Stp}, Laid x out p → ∃ q, Laid x (healsF i n l out) (p ++ q) ∧ ∀ k, cnt k q = sumM (fun m => cnt k (healT i n m)) l := by
  induction l with
  | nil => intro x out p h; exact ⟨[], by simpa [healsF] using h, fun k => rfl⟩
  | cons m l ih =>
    intro x out p h
    obtain ⟨q, h1, h2⟩ := ih (h.add (heal_kind i n m))
    refine ⟨healT i n m ++ q, by rw [← List.append_assoc]; exact h1, fun k => ?_⟩
    rw [cnt_append, h2, sumM_cons]
theorem harms_add (i n : Int) (l : List Mx) (hl : ∀ m ∈ l, 1 ≤ m.kind ∧ m.kind ≤ 5) : ∀ {x p : List Stp} {s : List Stp × Int}, Laid x s.1 p → ∃ q, Laid x (harmsF i n l s).1 (p ++ q) ∧ ∀ k, 10 ≤ k → cnt k q = sumM (fun m => cnt k (harmT i n m 0).1) l := by
  induction l with
  | nil => intro x p s h; exact ⟨[], by simpa [harmsF] using h, fun k _ => rfl⟩
  | cons m l ih =>
    intro x p s h
    obtain ⟨q, h1, h2⟩ := ih (fun m' hm' => hl m' (List.mem_cons_of_mem _ hm')) (s := (s.1 ++ (harmT i n m s.2).1, (harmT i n m s.2).2)) (h.add (harm_kind i n m (hl m (List.mem_cons_self ..)) s.2))
    refine ⟨(harmT i n m s.2).1 ++ q, by rw [← List.append_assoc]; exact h1, fun k hk => ?_⟩
    rw [cnt_append, h2 k hk, sumM_cons, harm_cnt _ _ _ _ _ hk, harm_cnt _ _ _ _ _ hk]
def atM (k : Int) (n : Int) (i : Nat) (m : Mx) : Nat := cnt k (healT i n m) + cnt k (harmT i n m 0).1
theorem lay_laid (l : List Mx) (hl : ∀ m ∈ l, 1 ≤ m.kind ∧ m.kind ≤ 5) (steps : List Stp) (x : Int) : ∀ i, ∃ q, Laid (steps.take i) (layK l steps x i).1 q ∧ ∀ k, 10 ≤ k → cnt k q = sumN (fun i => sumM (atM k steps.length i) l) i := by
  intro i
  induction i with
  | zero => exact ⟨[], by simpa [layK] using Laid.nil, fun k _ => rfl⟩
  | succ i ih =>
    obtain ⟨q, h1, h2⟩ := ih
    obtain ⟨q1, h3, h4⟩ := heals_add i steps.length l h1
    obtain ⟨q2, h5, h6⟩ := harms_add i steps.length l hl (s := (healsF i steps.length l (layK l steps x i).1, (layK l steps x i).2)) h3
    refine ⟨q ++ q1 ++ q2, ?_, fun k hk => ?_⟩
    · show Laid _ (putS steps i _) _
      unfold putS
      by_cases h : i < steps.length
      · rw [if_pos h, List.take_add_one, List.getElem?_eq_getElem h, List.getD_eq_getElem?_getD, List.getElem?_eq_getElem h]
        exact h5.step _
      · rw [if_neg h, List.take_of_length_le (by omega)]
        rw [List.take_of_length_le (by omega)] at h5
        exact h5
    · rw [cnt_append, cnt_append, h2 k hk, h4 k, h6 k hk, sumN, Nat.add_assoc]
      congr 1
      exact (sumM_add _ _ l).symm

theorem hit_or {a b c : Bool} : hit (c && (a && b)) = hit (c && (b && a)) := by cases a <;> cases b <;> rfl
/-- Of one entry as much is ended as begun. -/
theorem one_mended (m : Mx) (hf : 0 ≤ m.fr) (n : Nat) (k1 k2 c : Int) (_h1 : 10 ≤ k1) (_h2 : 10 ≤ k2)
    (e1 : ∀ i : Int, cnt k1 (healT i n m) = 0) (e2 : ∀ i : Int, cnt k2 (harmT i n m 0).1 = 0)
    (e3 : ∀ i : Int, cnt k1 (harmT i n m 0).1 = hit (!decide (i = n ∨ m.til ≤ m.fr ∨ i ≠ m.fr) && m.kind == c))
    (e4 : ∀ i : Int, cnt k2 (healT i n m) = hit (!decide (m.til ≤ m.fr ∨ (n : Int) ≤ m.fr ∨ i ≠ min m.til n) && m.kind == c)) :
    sumN (fun i => atM k1 n i m) (n + 1) = sumN (fun i => atM k2 n i m) (n + 1) := by
  have a1 : sumN (fun i => atM k1 n i m) (n + 1) = hit (decide (m.fr.toNat < n + 1) && (decide (m.fr < m.til ∧ m.fr < n) && m.kind == c)) := by
    refine sumN_one _ _ _ _ fun i hi => ?_
    show cnt k1 (healT i n m) + cnt k1 (harmT i n m 0).1 = _
    rw [e1, e3, Nat.zero_add]
    congr 1
    rw [← Bool.and_assoc]
    congr 1
    rw [← Bool.decide_and, ← decide_not]
    exact decide_eq_decide.2 (by omega)
  have a2 : sumN (fun i => atM k2 n i m) (n + 1) = hit (decide ((min m.til n).toNat < n + 1) && (decide (m.fr < m.til ∧ m.fr < n) && m.kind == c)) := by
    refine sumN_one _ _ _ _ fun i hi => ?_
    show cnt k2 (healT i n m) + cnt k2 (harmT i n m 0).1 = _
    rw [e2, e4, Nat.add_zero]
    congr 1
    rw [← Bool.and_assoc]
    congr 1
    rw [← Bool.decide_and, ← decide_not]
    exact decide_eq_decide.2 (by omega)
  rw [a1, a2]
  congr 1
  rw [← Bool.and_assoc, ← Bool.and_assoc]
  congr 1
  rw [← Bool.decide_and, ← Bool.decide_and]
  exact decide_eq_decide.2 (by omega)
theorem mended (l : List Mx) (hl : ∀ m ∈ l, 0 ≤ m.fr) (n : Nat) : sumN (fun i => sumM (atM 14 n i) l) (n + 1) = sumN (fun i => sumM (atM 15 n i) l) (n + 1) := by
  rw [sum_swap, sum_swap]
  refine sumM_congr fun m hm => one_mended m (hl m hm) n 14 15 4 (by decide) (by decide) (fun i => ?_) (fun i => ?_) (fun i => ?_) (fun i => ?_)
  · rw [heal_cnt]; simp [hit]
  · rw [harm_cnt _ _ _ _ _ (by decide)]; simp [hit]
  · rw [harm_cnt _ _ _ _ _ (by decide)]; simp
  · rw [heal_cnt]; simp
theorem restarted (l : List Mx) (hl : ∀ m ∈ l, 0 ≤ m.fr) (n : Nat) : sumN (fun i => sumM (atM 10 n i) l) (n + 1) = sumN (fun i => sumM (atM 11 n i) l) (n + 1) := by
  rw [sum_swap, sum_swap]
  refine sumM_congr fun m hm => one_mended m (hl m hm) n 10 11 5 (by decide) (by decide) (fun i => ?_) (fun i => ?_) (fun i => ?_) (fun i => ?_)
  · rw [heal_cnt]; simp [hit]
  · rw [harm_cnt _ _ _ _ _ (by decide)]; simp [hit]
  · rw [harm_cnt _ _ _ _ _ (by decide)]; simp
  · rw [heal_cnt]; simp
/-- P40.7, P40.8. -/
theorem lay_keeps (l : List Mx) (hl : ∀ m ∈ l, 1 ≤ m.kind ∧ m.kind ≤ 5 ∧ 0 ≤ m.fr) (steps : List Stp) (x : Int) :
    ∃ q, Laid steps (layT l steps x) q ∧ cnt 14 q = cnt 15 q ∧ cnt 10 q = cnt 11 q := by
  obtain ⟨q, h1, h2⟩ := lay_laid l (fun m hm => ⟨(hl m hm).1, (hl m hm).2.1⟩) steps x (steps.length + 1)
  rw [List.take_of_length_le (by omega)] at h1
  refine ⟨q, h1, ?_, ?_⟩
  · rw [h2 14 (by decide), h2 15 (by decide)]
    exact mended l (fun m hm => (hl m hm).2.2) _
  · rw [h2 10 (by decide), h2 11 (by decide)]
    exact restarted l (fun m hm => (hl m hm).2.2) _
theorem lay_nil (steps : List Stp) (x : Int) : ∀ i, layK [] steps x i = (steps.take i, x) := by
  intro i
  induction i with
  | zero => simp [layK]
  | succ i ih =>
    rw [layK, ih]
    show (putS steps i (steps.take i), x) = _
    unfold putS
    by_cases h : i < steps.length
    · rw [if_pos h, List.take_add_one, List.getElem?_eq_getElem h, List.getD_eq_getElem?_getD, List.getElem?_eq_getElem h]; rfl
    · rw [if_neg h, List.take_of_length_le (by omega), List.take_of_length_le (by omega)]
theorem layT_nil (steps : List Stp) (x : Int) : layT [] steps x = steps := by
  rw [layT, lay_nil, List.take_of_length_le (by omega)]

/-! ### The steps looked for, one behind the other -/
noncomputable def findK (l : List Stp) : List Stp → Nat → Nat
  | [], at_ => at_
  | s :: out, at_ => findK l out (if at_ < l.length ∧ s = l.getD at_ stp0 then at_ + 1 else at_)
theorem find_all (l : List Stp) : ∀ (out : List Stp) (at_ : Nat), at_ ≤ l.length → (l.drop at_).Sublist out → findK l out at_ = l.length := by
  intro out
  induction out with
  | nil =>
    intro at_ h hs
    have : (l.drop at_) = [] := List.sublist_nil.1 hs
    have := congrArg List.length this
    simp at this
    show at_ = l.length
    omega
  | cons s out ih =>
    intro at_ h hs
    rw [findK]
    by_cases hc : at_ < l.length
    · have hd : l.drop at_ = l.getD at_ stp0 :: l.drop (at_ + 1) := by
        rw [List.getD_eq_getElem?_getD, List.getElem?_eq_getElem hc]; exact List.drop_eq_getElem_cons hc
      rw [hd] at hs
      by_cases he : s = l.getD at_ stp0
      · rw [if_pos ⟨hc, he⟩]
        refine ih _ hc ?_
        rw [← he] at hs
        exact List.cons_sublist_cons.1 hs
      · rw [if_neg (fun h => he h.2)]
        refine ih _ h ?_
        rw [hd]
        cases hs with
        | cons _ h => exact h
        | cons_cons _ h => exact absurd rfl he
    · rw [if_neg (fun h => hc h.1)]
      refine ih _ h ?_
      have : l.drop at_ = [] := List.drop_of_length_le (by omega)
      rw [this]
      exact List.nil_sublist _
theorem find_found {l out : List Stp} (h : l.Sublist out) : findK l out 0 = l.length := find_all l out 0 (Nat.zero_le _) (by simpa using h)
end Go.Proofs.YtgaghkchdiepoaaDoor
