/- What is known of the variables; the kit's contracts met: numbers written and read, a text split. -/
import Derived.Test.YtphgcgggbbcjgaaDoorShelf
import Derived.Test.YtphgcgggbbcjgaaDoorDl26
import Derived.Stop.LaidErr
import Derived.Lib.LaidTab
import Derived.Lib.AtoiErrMem
import Derived.KernelRfl
namespace Go.Proofs.YtphgcgggbbcjgaaDoor
open Go.RowKit Go.Dl

abbrev errSyn : String := "strconv.ErrSyntax"
abbrev errRan : String := "strconv.ErrRange"
/-- The table's name, as the row bears it. -/
def powN : String := ((Rows.watchTakesRow.laid.map (·.1)).getD 2 "")
def okD (w : World) : Prop := (∃ m, w.cell? ⟨2, 0, none⟩ = some (.int .i64 m)) ∧ (∃ tp p, w.var? Tryd.prog errSyn = some #[.iface tp p]) ∧ (∃ tp p, w.var? Tryd.prog errRan = some #[.iface tp p]) ∧ Lib.TabIs Tryd.prog w powN .u64 Lib.pow10Tab
theorem var_lt {P : Program} {w : World} {n : String} {cs : Array Value} {g : Nat} (hg : P.globalNamed n = some g) (h : w.var? P n = some cs) : g < w.heap.size := by
  unfold World.var? at h
  rw [hg] at h
  rcases Nat.lt_or_ge g w.heap.size with h' | h'
  · exact h'
  · simp [Array.getElem?_eq_none h'] at h
theorem gSyn : Tryd.prog.globalNamed errSyn = some 0 := by kernel_rfl
theorem gRan : Tryd.prog.globalNamed errRan = some 1 := by kernel_rfl
theorem gPow : Tryd.prog.globalNamed powN = some 3 := by kernel_rfl
theorem okD_mono {w0 w : World} (hb : Below w0.heap.size w0 w) (h : okD w0) : okD w := by
  obtain ⟨⟨m, h1⟩, ⟨t2, p2, h2⟩, ⟨t3, p3, h3⟩, h4⟩ := h
  refine ⟨⟨m, ?_⟩, ⟨t2, p2, ?_⟩, ⟨t3, p3, ?_⟩, ?_⟩
  · rw [World.cell?_of_block (w := w0) (a := ⟨2, 0, none⟩) (hb.block 2 (World.block_lt_of_cell? _ _ h1))]; exact h1
  · exact var?_below hb gSyn (var_lt gSyn h2) h2
  · exact var?_below hb gRan (var_lt gRan h3) h3
  · exact var?_below hb gPow (var_lt gPow h4) h4
instance : Inhabited GlobS := ⟨⟨okD, okD_mono, false⟩⟩
theorem gok_iff {w : World} : Gok w ↔ okD w := Iff.rfl

def str (l : List UInt8) : DV := .v (.string ⟨l.toArray⟩)
def int1 (x : Int) : DV := .v (.int .i64 x)
theorem below_grow (w : World) (k : Nat) (os : Array Obj) : Below w.heap.size w (Sort.grow (w.drewN k) os) := by
  refine ⟨rfl, rfl, rfl, by simp [Sort.grow, World.drewN], fun i hi => ?_⟩
  simp [Sort.grow, World.drewN, Array.getElem?_append, hi]
theorem fmt60_D (n : Int) (h0 : -9223372036854775808 ≤ n) (h1 : n ≤ 9223372036854775807) : DPure Tryd.prog 60 [int1 n, int1 10] (str (Lib.itoa n)) :=
  DPure.kit (args := [.int .i64 n, .int .i64 10]) fun w hg => (Any.strconv_FormatInt_10 Tryd.laysFormat n h0 h1 w hg.2.2.2).mono fun e w' ⟨he, k, os, hw⟩ => by
    subst hw
    exact ⟨_, he, below_grow w k os, fun F hF => .data (.v _ rfl)⟩
theorem below_bytes (w : World) (t : TypeId) (s : ByteArray) : Below w.heap.size w (Lib.bytesWorld w t s) := Lib.bytesWorld_below w t s
/-- What strconv.ParseInt gives: a number; an error comes with 0, or with the end of the range. -/
def parseP (s : ByteArray) : DV := match Lib.parseIntB 64 s.data.toList with
  | .ok v => .tup [int1 v, .v .nilIface]
  | .range => .tup [int1 (Lib.intSat 64 s.data.toList), .ifc 101 .dead]
  | _ => .tup [int1 0, .ifc 101 .dead]
theorem rv_err {w : World} {F : Nat → Prop} {β : Beta} {x : Int} {v : Value} {t : TypeId} : RV w F β (.tup [int1 x, .ifc t .dead]) (.tuple #[.int .i64 x, .iface t v]) :=
  .tup _ [.int .i64 x, .iface t v] rfl (fun j d y h1 h2 => by
    match j, h1, h2 with
    | 0, h1, h2 => cases h1; cases h2; exact .data (.v _ rfl)
    | 1, h1, h2 => cases h1; cases h2; exact .ifc _ _ _ (.dead _))
theorem rv_num {w : World} {F : Nat → Prop} {β : Beta} {x : Int} : RV w F β (.tup [int1 x, .v .nilIface]) (.tuple #[.int .i64 x, .nilIface]) :=
  .tup _ [.int .i64 x, .nilIface] rfl (fun j d y h1 h2 => by
    match j, h1, h2 with
    | 0, h1, h2 => cases h1; cases h2; exact .data (.v _ rfl)
    | 1, h1, h2 => cases h1; cases h2; exact .data (.v _ rfl))
theorem parse36_D (s : ByteArray) (hs : s.size ≤ 281474976710656) : DPure Tryd.prog 36 [.v (.string s), int1 10, int1 64] (parseP s) := by
  refine DPure.kit (args := [.string s, .int .i64 10, .int .i64 64]) fun w hg => ?_
  obtain ⟨_, ⟨t2, p2, h2⟩, ⟨t3, p3, h3⟩, _⟩ := hg
  unfold parseP
  cases h : Lib.parseIntB 64 s.data.toList with
  | ok v =>
    refine (Any.strconv_ParseInt_10_at64_ok Tryd.laysParse s (by omega) v h w).mono fun e w' ⟨he, hw⟩ => ?_
    refine ⟨_, he, ?_, fun F hF => rv_num⟩
    rcases hw with rfl | ⟨t, rfl⟩
    · exact Below.refl _ _
    · exact below_bytes _ _ _
  | range =>
    refine (Any.strconv_ParseInt_10_at64_range_var Tryd.laysParse s hs h t3 p3 w h3).mono fun e w' ⟨N, he, _, _, hb⟩ => ?_
    exact ⟨_, he, hb, fun F hF => rv_err⟩
  | _ =>
    refine (Any.strconv_ParseInt_10_at64_syntax_var Tryd.laysParse s hs h t2 p2 w h2).mono fun e w' ⟨N, he, _, _, hb⟩ => ?_
    exact ⟨_, he, hb, fun F hF => rv_err⟩
/-- The pieces between blanks. -/
def spaceB : ByteArray := ⟨#[32]⟩
def wordsB (s : ByteArray) : List ByteArray := Lib.splitB spaceB 0 (Lib.countB s spaceB) s
theorem words_len (s : ByteArray) : (wordsB s).length = Lib.countB s spaceB + 1 := Lib.splitB_all spaceB (by decide) 0 _ s rfl
def words (s : ByteArray) : DV := .lst 1 ((wordsB s).map fun x => [.v (.string x)])
theorem split34_D (s : ByteArray) (hs : s.size < 4294967281) : DPure Tryd.prog 34 [.v (.string s), .v (.string spaceB)] (words s) := by
  refine DPure.kit (args := [.string s, .string spaceB]) fun w hg => ?_
  obtain ⟨⟨m, h1⟩, _⟩ := hg
  refine (Any.strings_Split { Tryd.laysSplit with } Tryd.laysSplit.i9 s spaceB m w hs h1 (by decide)).mono fun e w' ⟨he, hw⟩ => ?_
  subst hw
  refine ⟨_, he, (Below.refl _ w).alloc (Nat.le_refl _) _, fun F hF => .data ?_⟩
  have hl := words_len s
  have hcnt := Lib.countB_le spaceB (by decide) s.size s (Nat.le_refl _)
  have hel : ((wordsB s).map fun x => [DV.v (.string x)]).length = Lib.countB s spaceB + 1 := by rw [List.length_map]; exact hl
  have key : RD (w.alloc (.cells ((wordsB s).map Value.string).toArray 9)) F (.lst 1 ((wordsB s).map fun x => [DV.v (.string x)])) (.slice (some ⟨w.heap.size, 0, none⟩) ((wordsB s).map fun x => [DV.v (.string x)]).length (Lib.countB s spaceB + 1)) := by
    refine RD.lst 1 _ _ w.heap.size 0 _ (fun i _ => .string ((wordsB s).getD i ByteArray.empty)) (fun _ => rfl) (fun h => by cases h) (Nat.le_of_eq hel) (by simp only [maxLen]; omega) (fun i cs h => ?_) (fun i cs j d h1 h2 => ?_) (fun i cs j d h1 h2 => ?_)
    · simp only [List.getElem?_map, Option.map_eq_some_iff] at h
      obtain ⟨x, _, rfl⟩ := h
      rfl
    · simp only [List.getElem?_map, Option.map_eq_some_iff] at h1
      obtain ⟨x, hx, rfl⟩ := h1
      match j, h2 with
      | 0, h2 =>
        refine ⟨?_, hF _ (Nat.le_refl _)⟩
        have e2 : (wordsB s).getD i ByteArray.empty = x := by rw [List.getD_eq_getElem?_getD, hx]; rfl
        rw [e2]
        have hg : (w.alloc (.cells ((wordsB s).map Value.string).toArray 9)).heap[w.heap.size]? = some (.cells ((wordsB s).map Value.string).toArray 9 (0, 0)) := heap_alloc_new w _
        simp only [World.cell?, hg]
        simp [hx]
    · simp only [List.getElem?_map, Option.map_eq_some_iff] at h1
      obtain ⟨x, hx, rfl⟩ := h1
      match j, h2 with
      | 0, h2 =>
        cases h2
        have e2 : (wordsB s).getD i ByteArray.empty = x := by rw [List.getD_eq_getElem?_getD, hx]; rfl
        rw [e2]
        exact .v _ rfl
  rw [hel] at key
  exact key
end Go.Proofs.YtphgcgggbbcjgaaDoor
