/- What is known of the variables; the kit's contracts met: numbers written and read, texts joined, repeated, cut at their end, looked through. -/
import Derived.Test.YtlchjjchgebfiaaGreatDoorShelf
import Derived.Test.YtlchjjchgebfiaaGreatDoorDl31
import Derived.Stop.LaidErr
import Derived.Lib.LaidTab
import Derived.Lib.AtoiErrMem
import Derived.Shelf.Strings.OnBuilder
import Derived.Lib.Join
import Derived.KernelRfl
import Derived.Shelf.Strings.Repeat
import Derived.Shelf.Strings.Trim
import Derived.Shelf.Strings.Prefix
import Derived.Shelf.Small.Strs
import Derived.Shelf.Strings.Replace
import Derived.Shelf.Strings.IndexAnyAll
import Derived.Test.YtlchjjchgebfiaaGreatDoorDl26

namespace Go.Proofs.YtlchjjchgebfiaaGreatDoor
open Go.RowKit Go.Dl

abbrev errSyn : String := "strconv.ErrSyntax"
abbrev errRan : String := "strconv.ErrRange"
/-- The table's name, as the row bears it. -/
def powN : String := ((Rows.tableFitsRow.laid.map (·.1)).getD 2 "")
def okD (w : World) : Prop := (∃ m, w.cell? ⟨0, 0, none⟩ = some (.int .i64 m)) ∧ (∃ tp p, w.var? Tryz.prog errSyn = some #[.iface tp p]) ∧ (∃ tp p, w.var? Tryz.prog errRan = some #[.iface tp p]) ∧ Lib.TabIs Tryz.prog w powN .u64 Lib.pow10Tab
theorem var_lt {P : Program} {w : World} {n : String} {cs : Array Value} {g : Nat} (hg : P.globalNamed n = some g) (h : w.var? P n = some cs) : g < w.heap.size := by
  unfold World.var? at h
  rw [hg] at h
  rcases Nat.lt_or_ge g w.heap.size with h' | h'
  · exact h'
  · simp [Array.getElem?_eq_none h'] at h
theorem gSyn : Tryz.prog.globalNamed errSyn = some 2 := by kernel_rfl
theorem gRan : Tryz.prog.globalNamed errRan = some 3 := by kernel_rfl
theorem gPow : Tryz.prog.globalNamed powN = some 1 := by kernel_rfl
theorem okD_mono {w0 w : World} (hb : Below w0.heap.size w0 w) (h : okD w0) : okD w := by
  obtain ⟨⟨m, h1⟩, ⟨t2, p2, h2⟩, ⟨t3, p3, h3⟩, h4⟩ := h
  refine ⟨⟨m, ?_⟩, ⟨t2, p2, ?_⟩, ⟨t3, p3, ?_⟩, ?_⟩
  · rw [World.cell?_of_block (w := w0) (a := ⟨0, 0, none⟩) (hb.block 0 (World.block_lt_of_cell? _ _ h1))]; exact h1
  · exact var?_below hb gSyn (var_lt gSyn h2) h2
  · exact var?_below hb gRan (var_lt gRan h3) h3
  · exact var?_below hb gPow (var_lt gPow h4) h4
instance : Inhabited GlobS := ⟨⟨okD, okD_mono, false⟩⟩
theorem gok_iff {w : World} : Gok w ↔ okD w := Iff.rfl

def str (l : List UInt8) : DV := .v (.string ⟨l.toArray⟩)
def int1 (x : Int) : DV := .v (.int .i64 x)
theorem below_grow (w : World) (k : Nat) (os : Array Obj) : Below w.heap.size w (Sort.grow (w.drewN k) os) := by
  refine ⟨rfl, rfl, rfl, by simp [Sort.grow, World.drewN], fun i hi => ?_⟩
  simp [Sort.grow, World.drewN, Array.getElem?_append, hi]
theorem below_drew (w : World) (k : Nat) : Below w.heap.size w (w.drewN k) := ⟨rfl, rfl, rfl, Nat.le_refl _, fun _ _ => rfl⟩
def bs (l : List UInt8) : ByteArray := ⟨l.toArray⟩
def numB (n : Int) : ByteArray := bs (Lib.itoa n)
def strV (s : ByteArray) : DV := .v (.string s)
def bl (b : Bool) : DV := .v (.bool b)
theorem fmt96_D (n : Int) (h0 : -9223372036854775808 ≤ n) (h1 : n ≤ 9223372036854775807) : DPure Tryz.prog 96 [int1 n, int1 10] (strV (numB n)) :=
  DPure.kit (args := [.int .i64 n, .int .i64 10]) fun w hg => (Any.strconv_FormatInt_10 Tryz.laysFormat n h0 h1 w hg.2.2.2).mono fun e w' ⟨he, k, os, hw⟩ => by
    subst hw
    exact ⟨_, he, below_grow w k os, fun F hF => .data (.v _ rfl)⟩
theorem below_bytes (w : World) (t : TypeId) (s : ByteArray) : Below w.heap.size w (Lib.bytesWorld w t s) := Lib.bytesWorld_below w t s
/-- What strconv.ParseInt gives: a number; an error comes with 0, or with the end of the range. -/
def parseP (s : ByteArray) : DV := match Lib.parseIntB 64 s.data.toList with
  | .ok v => .tup [int1 v, .v .nilIface]
  | .range => .tup [int1 (Lib.intSat 64 s.data.toList), .ifc 176 .dead]
  | _ => .tup [int1 0, .ifc 176 .dead]
theorem rv_err {w : World} {F : Nat → Prop} {β : Beta} {x : Int} {v : Value} {t : TypeId} : RV w F β (.tup [int1 x, .ifc t .dead]) (.tuple #[.int .i64 x, .iface t v]) :=
  .tup _ [.int .i64 x, .iface t v] rfl (fun j d y h1 h2 => by
    match j, h1, h2 with
    | 0, h1, h2 => cases h1; cases h2; exact .data (.v _ rfl)
    | 1, h1, h2 => cases h1; cases h2; exact .ifc _ _ _ (.dead _))
theorem rv_num {w : World} {F : Nat → Prop} {β : Beta} {x : Int} : RV w F β (.tup [int1 x, .v .nilIface]) (.tuple #[.int .i64 x, .nilIface]) :=
  .tup _ [.int .i64 x, .nilIface] rfl (fun j d y h1 h2 => by
    match j, h1, h2 with
    | 0, h1, h2 => cases h1; cases h2; exact .data (.v _ rfl)
    | 1, h1, h2 => cases h1; cases h2; exact .data (.v _ rfl))
theorem parse95_D (s : ByteArray) (hs : s.size ≤ 281474976710656) : DPure Tryz.prog 95 [.v (.string s), int1 10, int1 64] (parseP s) := by
  refine DPure.kit (args := [.string s, .int .i64 10, .int .i64 64]) fun w hg => ?_
  obtain ⟨_, ⟨t2, p2, h2⟩, ⟨t3, p3, h3⟩, _⟩ := hg
  unfold parseP
  cases h : Lib.parseIntB 64 s.data.toList with
  | ok v =>
    refine (Any.strconv_ParseInt_10_at64_ok Tryz.laysParse s (by omega) v h w).mono fun e w' ⟨he, hw⟩ => ?_
    refine ⟨_, he, ?_, fun F hF => rv_num⟩
    rcases hw with rfl | ⟨t, rfl⟩
    · exact Below.refl _ _
    · exact below_bytes _ _ _
  | range =>
    refine (Any.strconv_ParseInt_10_at64_range_var Tryz.laysParse s hs h t3 p3 w h3).mono fun e w' ⟨N, he, _, _, hb⟩ => ?_
    exact ⟨_, he, hb, fun F hF => rv_err⟩
  | _ =>
    refine (Any.strconv_ParseInt_10_at64_syntax_var Tryz.laysParse s hs h t2 p2 w h2).mono fun e w' ⟨N, he, _, _, hb⟩ => ?_
    exact ⟨_, he, hb, fun F hF => rv_err⟩
def strD (x : ByteArray) : List DV := [.v (.string x)]
def strs (l : List ByteArray) : DV := .lst 1 (l.map strD)
def joinB (sep : ByteArray) (ws : List ByteArray) : ByteArray := bs (Lib.join (ws.map (·.data.toList)) sep.data.toList)
theorem extraJ : Builder.Extra Tryz.prog Tryz.laysJoin_ren where
  sizeBuilder := by kernel_rfl
  liesBuilder := by kernel_rfl
  t5 := Tryz.underlying5
  a5 := Tryz.isAgg5
  z5 := Tryz.sizeOf5
  v5 := Tryz.zeroValue5
  infoByte := by kernel_rfl
  cellsByte := by kernel_rfl
  sizeByte := by kernel_rfl
  neB5 := by decide
/-- A call of the kit's, met: of a list of texts and a text. -/
theorem DPure.kitS {f : FuncId} {ws : List ByteArray} {sep : ByteArray} {r : DV} (h : ∀ (w : World) (a : Option Addr) (bk o c : Nat), Gok w → (ws ≠ [] → a = some ⟨bk, o, none⟩) → (∀ (j : Nat) x, ws[j]? = some x → w.cell? ⟨bk, o + j, none⟩ = some (.string x)) → ws.length ≤ c →
      Calls Tryz.prog f #[.slice a ws.length c, .string sep] w fun e w' => ∃ v, e = .returned v ∧ Below w.heap.size w w' ∧ ∀ F : Nat → Prop, (∀ b, w.heap.size ≤ b → F b) → RV w' F (fun _ => none) r v) (hdr : Drs = false := by rfl) :
    DPure Tryz.prog f [strs ws, .v (.string sep)] r := fun w F vals hg hF hx => by
  match vals, hx.1 with
  | [x0, x1], _ =>
  have e1 : x1 = .string sep := rv_v (hx.2 1 _ _ rfl rfl)
  subst e1
  have h0 := hx.2 0 _ _ rfl rfl
  have key : ∃ a bk o c, x0 = .slice a ws.length c ∧ (ws ≠ [] → a = some ⟨bk, o, none⟩) ∧ (∀ (j : Nat) x, ws[j]? = some x → w.cell? ⟨bk, o + j, none⟩ = some (.string x)) ∧ ws.length ≤ c := by
    unfold strs at h0
    generalize hes : ws.map strD = es at h0
    cases h0 with
    | data hd =>
      cases hd with
      | lst _ _ a b off cap g ha hn hc hm hsz hcell hd =>
        have hl : es.length = ws.length := by rw [← hes, List.length_map]
        refine ⟨a, b, off, cap, by rw [hl], fun hne => ha (fun e => hne (by rw [e] at hl; exact List.eq_nil_of_length_eq_zero hl.symm)), fun j x hj => ?_, by omega⟩
        have h1 : es[j]? = some [DV.v (.string x)] := by rw [← hes, List.getElem?_map, hj]; rfl
        have h2 := (hcell j _ 0 _ h1 rfl).1
        have h3 := hd j _ 0 _ h1 rfl
        rw [Nat.mul_one, Nat.add_zero] at h2
        have e : g j 0 = .string x := rv_v (RV.data (β := fun _ => none) h3)
        rw [h2, e]
  obtain ⟨a, bk, o, c, rfl, k1, k2, k3⟩ := key
  refine (h w a bk o c hg k1 k2 k3).mono fun e w' ⟨v, he, hb, hr⟩ => ?_
  obtain ⟨k1, _⟩ := (SRel.empty w F hg hF).below' (.of hb fun e => by rw [hdr] at e; cases e)
  refine ⟨v, r, _, _, he, rfl, k1, (hr F hF).mono (fun _ _ h => h) fun b hb hFb => ⟨⟨hFb, ?_⟩, rfl⟩⟩
  rcases Nat.lt_or_ge b w.heap.size with hlt | hge
  · exact .inl hlt
  · exact .inr ⟨hge, fun i c hi => by cases hi⟩
theorem join38_D (ws : List ByteArray) (sep : ByteArray) (h1 : 1 ≤ ws.length) (hlen : (joinB sep ws).size ≤ 140737488355328) (hw : ws.length ≤ 140737488355328) : DPure Tryz.prog 38 [strs ws, strV sep] (strV (joinB sep ws)) :=
  DPure.kitS fun w a bk o c hg ha hcells hc => by
    have hne : ws ≠ [] := fun e => by rw [e] at h1; exact absurd h1 (by decide)
    rw [ha hne]
    obtain ⟨x, hx⟩ : ∃ x, ws[0]? = some x := ⟨_, List.getElem?_eq_getElem (by omega)⟩
    have hbk : bk < w.heap.size := World.block_lt_of_cell? w _ (hcells 0 x hx)
    refine (Any.strings_Join Tryz.laysJoin extraJ bk o c ws sep w hcells hbk hw hc (by
      have e : (joinB sep ws).size = (Lib.join (ws.map (·.data.toList)) sep.data.toList).length := by show (Lib.join (ws.map (·.data.toList)) sep.data.toList).toArray.size = _; simp
      rw [e] at hlen; exact hlen)).mono fun e w' ⟨he, hb⟩ => ?_
    exact ⟨_, he, hb, fun F hF => .data (.v _ rfl)⟩
def repB (s : ByteArray) (n : Nat) : ByteArray := bs (Lib.repeatL s.data.toList n)
theorem extraR : Builder.Extra Tryz.prog Tryz.laysRepeat_ren where
  sizeBuilder := by kernel_rfl
  liesBuilder := by kernel_rfl
  t5 := Tryz.underlying5
  a5 := Tryz.isAgg5
  z5 := Tryz.sizeOf5
  v5 := Tryz.zeroValue5
  infoByte := by kernel_rfl
  cellsByte := by kernel_rfl
  sizeByte := by kernel_rfl
  neB5 := by decide
theorem rep33_D (s : ByteArray) (n : Nat) (hn : n ≤ 9223372036854775807) (hl : s.size * n ≤ 140737488355328) : DPure Tryz.prog 33 [strV s, int1 n] (strV (repB s n)) :=
  DPure.kit (args := [.string s, .int .i64 n]) fun w _ => (Any.strings_Repeat Tryz.laysRepeat extraR s n w hn hl).mono fun e w' ⟨he, hb⟩ => ⟨_, he, hb, fun F hF => .data (.v _ rfl)⟩
def trimB (s : ByteArray) : ByteArray := bs (Lib.trimRightB s.data.toList 32)
def spaceB : ByteArray := ⟨#[32]⟩
theorem trim37_D (s : ByteArray) (hs : s.size ≤ 9223372036854775807) : DPure Tryz.prog 37 [strV s, strV spaceB] (strV (trimB s)) :=
  DPure.kit (args := [.string s, .string spaceB]) fun w _ => (Any.strings_TrimRight_one Tryz.laysTrim s 32 (by decide) w hs).mono fun e w' ⟨he, hw⟩ => ⟨_, he, by rw [hw]; exact Below.refl _ _, fun F hF => .data (.v _ rfl)⟩
theorem prefix67_D (s p : ByteArray) : DPure Tryz.prog 67 [strV s, strV p] (bl (Lib.hasPrefix s.data.toList p.data.toList)) :=
  DPure.kit (args := [.string s, .string p]) fun w _ => (Any.strings_HasPrefix Tryz.laysPrefix s p w).mono fun e w' ⟨he, hw⟩ => ⟨_, he, by rw [hw]; exact Below.refl _ _, fun F hF => .data (.v _ rfl)⟩
theorem byte108_D (s : ByteArray) (c : Int) : DPure Tryz.prog 108 [strV s, .v (.int .u8 c)] (int1 (Lib.indexByte s.data.toList c.toNat.toUInt8)) :=
  DPure.kit (args := [.string s, .int .u8 c]) fun w _ => (Any.strings_IndexByte Tryz.laysByte s c w).mono fun e w' ⟨he, hw⟩ => ⟨_, he, by rw [hw]; exact Below.refl _ _, fun F hF => .data (.v _ rfl)⟩
theorem wrap64 {k : Nat} (h : k < 9223372036854775808) : IntKind.i64.wrap (k : Int) = k := by
  simp [IntKind.wrap, IntKind.bits, IntKind.signed]; omega
theorem wrapI {x : Int} (h : -9223372036854775808 ≤ x) (h2 : x < 9223372036854775808) : IntKind.i64.wrap x = x := by
  simp [IntKind.wrap, IntKind.bits, IntKind.signed]; omega
theorem take_succ_eq {α : Type} {a b : List α} {d : α} {k : Nat} (hl : a.length = b.length) (h : a.take k = b.take k) (hk : k < a.length) (e : a.getD k d = b.getD k d) : a.take (k + 1) = b.take (k + 1) := by
  have h1 : a[k]? = b[k]? := by
    simp only [List.getD_eq_getElem?_getD, List.getElem?_eq_getElem hk, List.getElem?_eq_getElem (show k < b.length by omega), Option.getD_some] at e ⊢
    rw [e]
  rw [List.take_add_one, List.take_add_one, h, h1]
theorem take_succ {α : Type} {a : List α} {d : α} {k : Nat} (hk : k < a.length) : a.take (k + 1) = a.take k ++ [a.getD k d] := by
  rw [List.take_add_one, List.getElem?_eq_getElem hk, List.getD_eq_getElem?_getD, List.getElem?_eq_getElem hk]; rfl
theorem _root_.Go.Dl.Tri.at {P : Program} {N : Nat} {Y : YT} {c : Code} {st : St} {Q : DExit → St → Prop} (t : Nat) (d : DV) (_ : st.tm t = d) (h : Tri P N Y c st Q) : Tri P N Y c st Q := h
theorem wsucc {k n : Nat} (h : k < n) (hn : n ≤ 9223372036854775807) : IntKind.i64.wrap ((k : Int) + 1) = ((k + 1 : Nat) : Int) := by
  have := wrap64 (k := k + 1) (by omega)
  simpa using this
theorem lt_of_test {k : Nat} {α : Type} {f : α → List DV} {l : List α} (h : decide ((k : Int) < ((l.map f).length : Nat)) = true) : k < l.length := by simpa using h
theorem ge_of_test {k : Nat} {α : Type} {f : α → List DV} {l : List α} (h : decide ((k : Int) < ((l.map f).length : Nat)) = false) : l.length ≤ k := by simpa using h
theorem lt_int {k n : Nat} (h : decide ((k : Int) < (n : Int)) = true) : k < n := by simpa using h
theorem ge_int {k n : Nat} (h : decide ((k : Int) < (n : Int)) = false) : n ≤ k := by simpa using h
theorem _root_.Go.Dl.DWl.eq {ρ : Nat → Option Nat} {s : Sto} {pub : Nat → Prop} {X Y : List DV} (h : X = Y) (hall : Y.all noId1 = true) : DWl ρ s pub X Y := by rw [h]; exact DWl.same hall
theorem not_t {b : Bool} {Q : Prop} (h : b = true) (e : b = false) : Q := by rw [e] at h; cases h
theorem not_f {b : Bool} {Q : Prop} (h : b = false) (e : b = true) : Q := by rw [e] at h; cases h

theorem ba_eq {a b : ByteArray} : (a == b) = true ↔ a = b := by
  obtain ⟨a⟩ := a
  obtain ⟨b⟩ := b
  show (a == b) = true ↔ _
  simp
end Go.Proofs.YtlchjjchgebfiaaGreatDoor

/- Tables, as they come in; what the rows' lists of variables give. -/
namespace Go.Proofs.YtlchjjchgebfiaaGreatDoor
open Go.RowKit Go.Dl
structure Tb where
  head : List ByteArray
  rows : List (List ByteArray)
def rowD (l : List ByteArray) : List DV := [strs l]
def rowsD (l : List (List ByteArray)) : DV := .lst 1 (l.map rowD)
def tbD (t : Tb) : List DV := [strs t.head, rowsD t.rows]
def tab (t : Tb) : DV := .agg (tbD t)
theorem tab25 : fldTab Tryz.prog 25 = some [(22, 0, 1), (23, 1, 1)] := by kernel_rfl
theorem cells25 : Tryz.prog.cellsOf 25 = 2 := by kernel_rfl
theorem cells22 : Tryz.prog.cellsOf 22 = 1 := by kernel_rfl
theorem bytes22 : Tryz.prog.bytesOf 22 = 24 := by kernel_rfl
theorem bytes9 : Tryz.prog.bytesOf 9 = 16 := by kernel_rfl
theorem cells9 : Tryz.prog.cellsOf 9 = 1 := by kernel_rfl
theorem isS25 : isStructT Tryz.prog 25 = true := by kernel_rfl
set_option maxRecDepth 20000 in
theorem str_row (r : List DV) (h : Shp Tryz.prog 9 r) : ∃ s : ByteArray, r = strD s ∧ s.size ≤ 140737488355328 := by
  obtain ⟨s, e, h⟩ := Shp.str_inv Tryz.underlying9 h
  exact ⟨s, e, Nat.le_trans h (Nat.le_of_ble_eq_true rfl)⟩
def Sml (l : List ByteArray) : Prop := l.length * 16 ≤ 140737488355328 ∧ ∀ s ∈ l, s.size ≤ 140737488355328
set_option maxRecDepth 20000 in
theorem strs_in {r : List DV} (h : Shp Tryz.prog 22 r) : ∃ l : List ByteArray, r = rowD l ∧ Sml l := by
  obtain ⟨l, h1, h2, h3⟩ := Shp.slice_inv Tryz.underlying22 str_row h
  rw [cells9] at h1
  rw [bytes9] at h2
  exact ⟨l, h1, Nat.le_trans h2 (Nat.le_of_ble_eq_true rfl), h3⟩
theorem strs_row (r : List DV) (h : Shp Tryz.prog 22 r) : ∃ l : List ByteArray, r = rowD l ∧ Sml l := strs_in h
def SmlT (t : Tb) : Prop := Sml t.head ∧ t.rows.length * 24 ≤ 140737488355328 ∧ ∀ r ∈ t.rows, Sml r
set_option maxRecDepth 20000 in
theorem tab_arg {d : DV} (h : ShpV Tryz.prog 25 d) : ∃ t : Tb, d = tab t ∧ SmlT t := by
  obtain ⟨ds, rfl, h2⟩ := ShpV.agg isS25 h
  obtain ⟨hl, h1, h2, _⟩ := Shp.struct_inv tab25 h2
  rw [cells25] at hl
  match ds, hl with
  | [a, b], _ =>
    obtain ⟨l, e1, g1⟩ := strs_in h1
    obtain ⟨m, e2, g2, g3⟩ := Shp.slice_inv Tryz.underlying23 strs_row h2
    rw [cells22] at e2
    rw [bytes22] at g2
    cases e1; cases e2
    exact ⟨⟨l, m⟩, rfl, g1, Nat.le_trans g2 (Nat.le_of_ble_eq_true rfl), g3⟩
theorem Tryz.own : ownKnob Tryz.prog.godebug = none := by kernel_rfl
theorem Tryz.laidOut : laidOutB Tryz.prog = true := by kernel_rfl
abbrev laidL : List (String × DataW Unit) := Rows.tableFitsRow.laid
theorem gSynT : (Tryz.prog.globals[2]?).map (·.type) = some 68 := by kernel_rfl
theorem gRanT : (Tryz.prog.globals[3]?).map (·.type) = some 68 := by kernel_rfl
theorem gPowT : ∃ t, (Tryz.prog.globals[1]?).map (·.type) = some t ∧ Tryz.prog.underlying t = some (.array 20 42) ∧ Tryz.prog.cellsOf t = 20 := ⟨_, rfl, by kernel_rfl, by kernel_rfl⟩
def starN : String := match (Rows.laid_strconv_ErrRange : DataW Unit) with
  | .iface nm _ => nm
  | _ => powN
theorem row196 (u : TypeId) (h : Tryz.prog.typeName? 3 u = some starN) : u = 196 :=
  typeName_ptr_named (nm := "errors.errorString") (by kernel_rfl) (by kernel_rfl) (by decide) u (h.trans (congrArg some (by kernel_rfl)))
theorem cells198 : Tryz.prog.cellsOf 198 = 1 := by kernel_rfl
theorem cells42 : Tryz.prog.cellsOf 42 = 1 := by kernel_rfl
theorem plainL : (laidL.all fun x => x.2.handleName?.isNone) = true := by kernel_rfl
theorem gok_of {W : World} (hL : laidMetH Tryz.prog laidL W) (hsh : W.ShapedOpen Tryz.prog) : Gok W := by
  rw [MakeChecks.laidMetH_plain _ _ _ plainL] at hL
  obtain ⟨t, ht, hu, hc⟩ := gPowT
  have h2 := hL.tail.tail
  have h4 := h2.tail.tail
  have h5 := h4.tail
  obtain ⟨a1, s1, hv1, -, -, -⟩ := laid_sentinel h4 gRan gRanT Tryz.underlying68 row196 Tryz.underlying196 Tryz.underlying198 rfl rfl Tryz.underlying9 cells198 cells9
  obtain ⟨a0, s0, hv0, -, -, -⟩ := laid_sentinel h5 gSyn gSynT Tryz.underlying68 row196 Tryz.underlying196 Tryz.underlying198 rfl rfl Tryz.underlying9 cells198 cells9
  refine ⟨Tryz.laysReplace.s1_3 W hsh, ⟨_, _, hv0⟩, ⟨_, _, hv1⟩, ?_⟩
  exact Lib.tabIs_of_head (g := 1) (t := t) (e := 42) (n := 20) gPow ht hu Tryz.underlying42 cells42 hc h2
end Go.Proofs.YtlchjjchgebfiaaGreatDoor

/- Fit tables: the document's. -/
namespace Go.Proofs.YtlchjjchgebfiaaGreatDoor
open Go.RowKit Go.Dl
attribute [local irreducible] Tri SCall TSem ECall Drawn DFun QSem PSem PCall GCall MCall Round Weak dloadE OW DWl Tells IntKind.wrap Retold ESem
theorem all_end {α : Type} {l : List α} {p : α → Bool} {d : α} {i : Nat} (h : ∀ k, k < i → k < l.length → p (l.getD k d) = true) (hi : l.length ≤ i) : l.all p = true := by
  rw [List.all_eq_true]
  intro x hx
  obtain ⟨k, hk, rfl⟩ := List.getElem_of_mem hx
  have := h k (by omega) hk
  rw [List.getD_eq_getElem?_getD, List.getElem?_eq_getElem hk] at this
  exact this
theorem all_no {α : Type} {l : List α} {p : α → Bool} {d : α} {i : Nat} (hi : i < l.length) (h : p (l.getD i d) = false) : l.all p = false := by
  cases e : l.all p with
  | false => rfl
  | true =>
    have := List.all_eq_true.1 e (l.getD i d) (by rw [List.getD_eq_getElem?_getD, List.getElem?_eq_getElem hi]; exact List.getElem_mem hi)
    rw [h] at this; cases this
theorem all_next {α : Type} {l : List α} {p : α → Bool} {d : α} {i : Nat} (h : ∀ k, k < i → k < l.length → p (l.getD k d) = true) (h1 : p (l.getD i d) = true) : ∀ k, k < i + 1 → k < l.length → p (l.getD k d) = true := fun k hk hl => by
  rcases Nat.lt_succ_iff_lt_or_eq.1 hk with h2 | h2
  · exact h k h2 hl
  · subst h2; exact h1
def nz (b : UInt8) : Bool := !(b == 0)
def cellB (s : ByteArray) : Bool := s.data.toList.all nz && decide (s.size ≤ 1024)
def rowB (l : List ByteArray) (n : Int) : Bool := decide ((l.length : Int) = n) && l.all cellB
def hdN (t : Tb) : Int := ((t.head.map strD).length : Nat)
def badH (t : Tb) : Bool := bif bif bif decide (((t.head.map strD).length : Int) < 1) then true else decide (64 < ((t.head.map strD).length : Int)) then true else decide (4096 < ((t.rows.map rowD).length : Int)) then true else !rowB t.head (t.head.map strD).length
def fitB (t : Tb) : Bool := !badH t && t.rows.all fun r => rowB r (t.head.map strD).length
theorem sz_len (s : ByteArray) : s.data.toList.length = s.size := Array.length_toList
theorem byte_t {s : ByteArray} {k : Nat} (h : (byteAt s (k : Int).toNat == 0) = true) : nz (s.data.toList.getD k 0) = false := by
  rw [Int.toNat_natCast] at h
  unfold byteAt at h
  unfold nz
  generalize s.data.toList.getD k 0 = b at h ⊢
  have h := beq_iff_eq.1 h
  have : b = 0 := UInt8.toNat_inj.1 (show b.toNat = 0 by omega)
  subst this; rfl
theorem byte_f {s : ByteArray} {k : Nat} (h : (byteAt s (k : Int).toNat == 0) = false) : nz (s.data.toList.getD k 0) = true := by
  rw [Int.toNat_natCast] at h
  unfold byteAt at h
  unfold nz
  generalize s.data.toList.getD k 0 = b at h ⊢
  cases e : b == 0 with
  | false => rfl
  | true => have e := beq_iff_eq.1 e
            subst e; cases h
theorem cell_no {s : ByteArray} {k : Nat} (hk : k < s.size) (h : (byteAt s (k : Int).toNat == 0) = true) : false = cellB s := by
  rw [cellB, all_no (d := 0) (by rw [sz_len]; exact hk) (byte_t h)]; rfl
theorem cell_end {s : ByteArray} {i : Nat} (h : ∀ k, k < i → k < s.data.toList.length → nz (s.data.toList.getD k 0) = true) (hi : s.size ≤ i) : decide ((s.size : Int) ≤ 1024) = cellB s := by
  rw [cellB, all_end h (by rw [sz_len]; exact hi), Bool.true_and, Bool.eq_iff_iff, decide_eq_true_eq, decide_eq_true_eq]; omega
theorem mem_at {α : Type} {l : List α} {d : α} {i : Nat} (hi : i < l.length) : l.getD (i : Int).toNat d ∈ l := by
  rw [Int.toNat_natCast, List.getD_eq_getElem?_getD, List.getElem?_eq_getElem hi]; exact List.getElem_mem hi
theorem row_bad {l : List ByteArray} {n : Int} (h : (((l.map strD).length : Int) != n) = true) : false = rowB l n := by
  rw [List.length_map] at h
  rw [rowB, decide_eq_false (by simpa using h)]; rfl
theorem row_no {l : List ByteArray} {n : Int} {i : Nat} (hi : i < l.length) (h : (!cellB (l.getD (i : Int).toNat ⟨#[]⟩)) = true) : false = rowB l n := by
  rw [Int.toNat_natCast] at h
  rw [rowB, all_no hi (by simpa using h), Bool.and_false]
theorem row_end {l : List ByteArray} {n : Int} {i : Nat} (h : ∀ k, k < i → k < l.length → cellB (l.getD k ⟨#[]⟩) = true) (hi : l.length ≤ i) (hn : (((l.map strD).length : Int) != n) = false) : true = rowB l n := by
  rw [List.length_map] at hn
  rw [rowB, all_end h hi, decide_eq_true (by simpa using hn)]; rfl
def cellSt (s : ByteArray) (i : Nat) : St := ⟨0, tmOf [(0, strV s), (3, int1 i)], .of [] 0⟩
set_option maxRecDepth 20000 in
theorem cell86_D (s : ByteArray) (hs : s.size ≤ 140737488355328) : DPure Tryz.prog 86 [strV s] (bl (cellB s)) := by
  refine DFun.body Tryz.func86 rfl (by kernel_rfl) ?_
  repeat' (first | with_reducible rfl | ((conv => whnf); first | refine And.intro ?_ ?_ | (intro h; first | with_reducible exact tf_no h | with_reducible exact ft_no h | exact Bool.noConfusion h | with_reducible exact h | (have ht : true = true := h; clear ht h) | skip) | ((with_reducible refine DWl.mark ?_); repeat' (first | refine DWl.cons ?_ ?_ | exact DWl.nil | exact DW.same _ rfl | exact DW.ref _ _ _ rfl | exact DW.arr _ _ _ rfl | exact DW.sub _ _ _ _ rfl | exact DW.nilLst _ | refine DW.aggl ?_ | refine DW.tupl ?_ | refine DW.clol ?_ ?_ | refine DW.int ?_ | refine DW.bool ?_ | refine DW.str ?_)) | ((with_reducible refine Tri.mark ?_); first | refine Tri.loop (cellSt s) (fun i => i ≤ s.size ∧ ∀ k, k < i → k < s.data.toList.length → nz (s.data.toList.getD k 0) = true) (fun i => s.size - i) (0) (by kernel_rfl) (Weak.list [] [] ?_ ?_ ?_) ?_ ?_) | ((with_reducible refine Round.mark ?_); first | refine Round.go ((· + 1)) ?_ ?_ (Weak.list [] [] ?_ ?_ ?_)) | ((with_reducible refine ECall.mark ?_); first | refine ECall.only ?_ (fun h => nomatch h) | refine ECall.only ?_ ?_) | ((with_reducible refine Drawn.mark ?_); first | refine Drawn.quiet (by kernel_rfl) ?_) | refine dcell_ok rfl ?_ | refine AppC.new ?_))
  all_goals first | (with_reducible refine enters_mark ?_; kernel_rfl) | (with_reducible refine boolT_mark ?_; kernel_rfl) | rfl | trivial | assumption | exact Nat.le_of_ble_eq_true rfl | (show entersB _ _ = true; kernel_rfl) | exact DW.same _ rfl | exact DW.ref _ _ _ rfl | exact DW.arr _ _ _ rfl | refine DW.int ?_ | refine dvb ?_ | refine dvi ?_ | exact OW.cells rfl rfl (DWl.same rfl) | skip
  all_goals repeat' (first | exact OW.cells rfl rfl (DWl.same rfl) | refine OW.cells rfl rfl ?_ | exact DW.nilArr _ rfl | refine DW.clol ?_ ?_ | refine DWl.cons ?_ ?_ | exact DWl.nil | exact DW.same _ rfl | exact DW.ref _ _ _ rfl | exact DW.arr _ _ _ rfl | refine DW.int ?_)
  all_goals try (simp_all; done)
  all_goals try (simp at *; omega)
  · rename_i i hi e0
    exact cell_no (lt_int e0) h
  · rename_i i hi e0 e1 k hk
    exact all_next hi.2 (byte_f e1) k hk h
  · rename_i i hi e0
    exact wsucc (lt_int e0) (by omega)
  · rename_i i hi
    exact cell_end hi.2 (ge_int h)
def rowSt (l : List ByteArray) (i : Nat) : St := ⟨0, tmOf [(0, strs l), (5, int1 i)], .of [] 0⟩
set_option maxRecDepth 20000 in
theorem row51_D (l : List ByteArray) (n : Int) (hl : Sml l) : DPure Tryz.prog 51 [strs l, int1 n] (bl (rowB l n)) := by
  have hc := fun s (h : s ∈ l) => cell86_D s (hl.2 s h)
  refine DFun.body Tryz.func51 rfl (by kernel_rfl) ?_
  repeat' (first | with_reducible rfl | ((conv => whnf); first | refine And.intro ?_ ?_ | (intro h; first | with_reducible exact tf_no h | with_reducible exact ft_no h | exact Bool.noConfusion h | with_reducible exact h | (have ht : true = true := h; clear ht h) | skip) | ((with_reducible refine DWl.mark ?_); repeat' (first | refine DWl.cons ?_ ?_ | exact DWl.nil | exact DW.same _ rfl | exact DW.ref _ _ _ rfl | exact DW.arr _ _ _ rfl | exact DW.sub _ _ _ _ rfl | exact DW.nilLst _ | refine DW.aggl ?_ | refine DW.tupl ?_ | refine DW.clol ?_ ?_ | refine DW.int ?_ | refine DW.bool ?_ | refine DW.str ?_)) | ((with_reducible refine SCall.mark ?_); first | refine SCall.data (hc _ ?_) rfl rfl ?_ | refine SCall.scal (hc _ ?_) rfl rfl ?_) | ((with_reducible refine PCall.mark ?_); first | refine PCall.mk (hc _ ?_) rfl rfl ?_) | ((with_reducible refine GCall.mark ?_); first | refine GCall.data (fun _ => hc _ ?_) rfl rfl ?_ | refine GCall.scal (fun _ => hc _ ?_) rfl rfl ?_) | ((with_reducible refine MCall.mark ?_); first | refine MCall.data (fun _ => hc _ ?_) rfl rfl ?_ | refine MCall.plain (PCall.mk (hc _ ?_) rfl rfl ?_)) | ((with_reducible refine Tri.mark ?_); first | refine Tri.loop (rowSt l) (fun i => i ≤ l.length ∧ ∀ k, k < i → k < l.length → cellB (l.getD k ⟨#[]⟩) = true) (fun i => l.length - i) (0) (by kernel_rfl) (Weak.list [] [] ?_ ?_ ?_) ?_ ?_) | ((with_reducible refine Round.mark ?_); first | refine Round.go ((· + 1)) ?_ ?_ (Weak.list [] [] ?_ ?_ ?_)) | ((with_reducible refine ECall.mark ?_); first | refine ECall.only ?_ (fun h => nomatch h) | refine ECall.only ?_ ?_) | ((with_reducible refine Drawn.mark ?_); first | refine Drawn.quiet (by kernel_rfl) ?_) | refine dloadE_map ((⟨#[]⟩ : ByteArray)) ?_ ?_ | refine dcell_ok rfl ?_ | refine AppC.new ?_))
  all_goals first | (with_reducible refine enters_mark ?_; kernel_rfl) | (with_reducible refine boolT_mark ?_; kernel_rfl) | rfl | trivial | assumption | exact Nat.le_of_ble_eq_true rfl | (show entersB _ _ = true; kernel_rfl) | exact DW.same _ rfl | exact DW.ref _ _ _ rfl | exact DW.arr _ _ _ rfl | refine DW.int ?_ | refine dvb ?_ | refine dvi ?_ | exact OW.cells rfl rfl (DWl.same rfl) | skip
  all_goals repeat' (first | exact OW.cells rfl rfl (DWl.same rfl) | refine OW.cells rfl rfl ?_ | exact DW.nilArr _ rfl | refine DW.clol ?_ ?_ | refine DWl.cons ?_ ?_ | exact DWl.nil | exact DW.same _ rfl | exact DW.ref _ _ _ rfl | exact DW.arr _ _ _ rfl | refine DW.int ?_)
  all_goals try (simp_all; done)
  all_goals try (simp at *; omega)
  · exact row_bad h
  · rename_i i hi
    exact mem_at (lt_of_test h)
  · rename_i i hi e0
    exact row_no (lt_of_test e0) h
  · rename_i i hi e0 e1 k hk
    rw [Int.toNat_natCast] at e1
    exact all_next hi.2 (by simpa using e1) k hk h
  · rename_i i hi e0
    exact wsucc (lt_of_test e0) (by have := hl.1; omega)
  · rename_i e9 i hi
    exact row_end hi.2 (ge_of_test h) (by assumption)
end Go.Proofs.YtlchjjchgebfiaaGreatDoor

/- Fit tables: the document's, all of it; cells and rows of the program's. -/
namespace Go.Proofs.YtlchjjchgebfiaaGreatDoor
open Go.RowKit Go.Dl
attribute [local irreducible] Tri SCall TSem ECall Drawn DFun QSem PSem PCall GCall MCall Round Weak dloadE OW DWl Tells IntKind.wrap Retold ESem
theorem fit_bad {t : Tb} (h : badH t = true) : false = fitB t := by rw [fitB, h]; rfl
theorem fit_no {t : Tb} {i : Nat} (hi : i < t.rows.length) (h : (!rowB (t.rows.getD (i : Int).toNat []) (t.head.map strD).length) = true) : false = fitB t := by
  rw [Int.toNat_natCast] at h
  rw [fitB, all_no hi (by simpa using h), Bool.and_false]
theorem fit_end {t : Tb} {i : Nat} (hb : badH t = false) (h : ∀ k, k < i → k < t.rows.length → rowB (t.rows.getD k []) (t.head.map strD).length = true) (hi : t.rows.length ≤ i) : true = fitB t := by
  rw [fitB, hb, all_end h hi]; rfl
theorem index_nz (l : List UInt8) : decide (Lib.indexByte l 0 < 0) = l.all nz := by
  induction l with
  | nil => rfl
  | cons b l ih =>
    have hg := Lib.indexByte_ge l 0
    rw [Lib.indexByte, List.all_cons]
    cases e : b == 0 with
    | true => simp [nz, e]
    | false =>
      rw [show nz b = true by simp [nz, e], Bool.true_and, ← ih]
      rw [if_neg (by simp)]
      split
      · rename_i h1
        have h1 := beq_iff_eq.1 h1
        rw [h1]
      · rename_i h1
        have h1 : Lib.indexByte l 0 ≠ -1 := fun h2 => h1 (by rw [h2]; rfl)
        rw [Bool.eq_iff_iff, decide_eq_true_eq, decide_eq_true_eq]; omega
def fitSt (t : Tb) (i : Nat) : St := ⟨0, tmOf [(1, .ref 0 0), (3, int1 (t.head.map strD).length), (4, int1 i)], .of [(0, ⟨25, 2, tbD t⟩)] 1⟩
attribute [local irreducible] rowB cellB fitB
set_option maxRecDepth 20000 in
theorem fit20_D (t : Tb) (hs : SmlT t) : DPure Tryz.prog 20 [tab t] (bl (fitB t)) := by
  have hc := fun l (h : l ∈ t.rows) => row51_D l (t.head.map strD).length (hs.2.2 l h)
  have hh := row51_D t.head (t.head.map strD).length hs.1
  refine DFun.body Tryz.func20 rfl (by kernel_rfl) ?_
  repeat' (first | with_reducible rfl | ((conv => whnf); first | refine And.intro ?_ ?_ | (intro h; first | with_reducible exact tf_no h | with_reducible exact ft_no h | exact Bool.noConfusion h | with_reducible exact h | (have ht : true = true := h; clear ht h) | skip) | ((with_reducible refine DWl.mark ?_); repeat' (first | refine DWl.cons ?_ ?_ | exact DWl.nil | exact DW.same _ rfl | exact DW.ref _ _ _ rfl | exact DW.arr _ _ _ rfl | exact DW.sub _ _ _ _ rfl | exact DW.nilLst _ | refine DW.aggl ?_ | refine DW.tupl ?_ | refine DW.clol ?_ ?_ | refine DW.int ?_ | refine DW.bool ?_ | refine DW.str ?_)) | ((with_reducible refine SCall.mark ?_); first | refine SCall.data (hh) rfl rfl ?_ | refine SCall.scal (hh) rfl rfl ?_ | refine SCall.data (hc _ ?_) rfl rfl ?_ | refine SCall.scal (hc _ ?_) rfl rfl ?_) | ((with_reducible refine PCall.mark ?_); first | refine PCall.mk (hh) rfl rfl ?_ | refine PCall.mk (hc _ ?_) rfl rfl ?_) | ((with_reducible refine GCall.mark ?_); first | refine GCall.data (fun _ => hh) rfl rfl ?_ | refine GCall.scal (fun _ => hh) rfl rfl ?_ | refine GCall.data (fun _ => hc _ ?_) rfl rfl ?_ | refine GCall.scal (fun _ => hc _ ?_) rfl rfl ?_) | ((with_reducible refine MCall.mark ?_); first | refine MCall.data (fun _ => hh) rfl rfl ?_ | refine MCall.plain (PCall.mk (hh) rfl rfl ?_) | refine MCall.data (fun _ => hc _ ?_) rfl rfl ?_ | refine MCall.plain (PCall.mk (hc _ ?_) rfl rfl ?_)) | ((with_reducible refine Tri.mark ?_); first | refine Tri.loop (fitSt t) (fun i => i ≤ t.rows.length ∧ ∀ k, k < i → k < t.rows.length → rowB (t.rows.getD k []) (t.head.map strD).length = true) (fun i => t.rows.length - i) (0) (by kernel_rfl) (Weak.list [(0, some 0)] [] ?_ ?_ ?_) ?_ ?_) | ((with_reducible refine Round.mark ?_); first | refine Round.go ((· + 1)) ?_ ?_ (Weak.list [(0, some 0)] [] ?_ ?_ ?_)) | ((with_reducible refine ECall.mark ?_); first | refine ECall.only ?_ (fun h => nomatch h) | refine ECall.only ?_ ?_) | ((with_reducible refine Drawn.mark ?_); first | refine Drawn.quiet (by kernel_rfl) ?_) | refine dloadE_map (([] : List ByteArray)) ?_ ?_ | refine dcell_ok rfl ?_ | refine AppC.new ?_))
  all_goals first | (with_reducible refine enters_mark ?_; kernel_rfl) | (with_reducible refine boolT_mark ?_; kernel_rfl) | rfl | trivial | assumption | exact Nat.le_of_ble_eq_true rfl | (show entersB _ _ = true; kernel_rfl) | exact DW.same _ rfl | exact DW.ref _ _ _ rfl | exact DW.arr _ _ _ rfl | refine DW.int ?_ | refine dvb ?_ | refine dvi ?_ | exact OW.cells rfl rfl (DWl.same rfl) | skip
  all_goals repeat' (first | exact OW.cells rfl rfl (DWl.same rfl) | refine OW.cells rfl rfl ?_ | exact DW.nilArr _ rfl | refine DW.clol ?_ ?_ | refine DWl.cons ?_ ?_ | exact DWl.nil | exact DW.same _ rfl | exact DW.ref _ _ _ rfl | exact DW.arr _ _ _ rfl | refine DW.int ?_)
  all_goals try (simp_all; done)
  all_goals try (simp at *; omega)
  · exact fit_bad h
  · rename_i i hi e0
    exact fit_no (lt_of_test e0) h
  · rename_i i hi e0 e1 k hk
    rw [Int.toNat_natCast] at e1
    exact all_next (p := fun r => rowB r (t.head.map strD).length) hi.2 (by rw [← Bool.not_eq_false', e1]) k hk h
  · rename_i i hi e0
    exact wsucc (lt_of_test e0) (by have := hs.2.1; omega)
  · rename_i e9 i hi
    exact fit_end (by assumption) hi.2 (ge_of_test h)
set_option maxRecDepth 20000 in
theorem cell84_D (s : ByteArray) (hs : s.size ≤ 140737488355328) : DPure Tryz.prog 84 [strV s] (bl (cellB s)) := by
  refine DFun.body Tryz.func84 rfl (by kernel_rfl) ?_
  repeat' (first | with_reducible rfl | ((conv => whnf); first | refine And.intro ?_ ?_ | (intro h; first | with_reducible exact tf_no h | with_reducible exact ft_no h | exact Bool.noConfusion h | with_reducible exact h | (have ht : true = true := h; clear ht h) | skip) | ((with_reducible refine DWl.mark ?_); repeat' (first | refine DWl.cons ?_ ?_ | exact DWl.nil | exact DW.same _ rfl | exact DW.ref _ _ _ rfl | exact DW.arr _ _ _ rfl | exact DW.sub _ _ _ _ rfl | exact DW.nilLst _ | refine DW.aggl ?_ | refine DW.tupl ?_ | refine DW.clol ?_ ?_ | refine DW.int ?_ | refine DW.bool ?_ | refine DW.str ?_)) | ((with_reducible refine SCall.mark ?_); first | refine SCall.data (byte108_D _ _) rfl rfl ?_ | refine SCall.scal (byte108_D _ _) rfl rfl ?_) | ((with_reducible refine PCall.mark ?_); first | refine PCall.mk (byte108_D _ _) rfl rfl ?_) | ((with_reducible refine GCall.mark ?_); first | refine GCall.data (fun _ => byte108_D _ _) rfl rfl ?_ | refine GCall.scal (fun _ => byte108_D _ _) rfl rfl ?_) | ((with_reducible refine MCall.mark ?_); first | refine MCall.data (fun _ => byte108_D _ _) rfl rfl ?_ | refine MCall.plain (PCall.mk (byte108_D _ _) rfl rfl ?_)) | ((with_reducible refine ECall.mark ?_); first | refine ECall.only ?_ (fun h => nomatch h) | refine ECall.only ?_ ?_) | ((with_reducible refine Drawn.mark ?_); first | refine Drawn.quiet (by kernel_rfl) ?_) | refine dcell_ok rfl ?_ | refine AppC.new ?_))
  all_goals first | (with_reducible refine enters_mark ?_; kernel_rfl) | (with_reducible refine boolT_mark ?_; kernel_rfl) | rfl | trivial | assumption | exact Nat.le_of_ble_eq_true rfl | (show entersB _ _ = true; kernel_rfl) | exact DW.same _ rfl | exact DW.ref _ _ _ rfl | exact DW.arr _ _ _ rfl | refine DW.int ?_ | refine dvb ?_ | refine dvi ?_ | exact OW.cells rfl rfl (DWl.same rfl) | skip
  all_goals repeat' (first | exact OW.cells rfl rfl (DWl.same rfl) | refine OW.cells rfl rfl ?_ | exact DW.nilArr _ rfl | refine DW.clol ?_ ?_ | refine DWl.cons ?_ ?_ | exact DWl.nil | exact DW.same _ rfl | exact DW.ref _ _ _ rfl | exact DW.arr _ _ _ rfl | refine DW.int ?_)
  all_goals try (simp_all; done)
  all_goals try (simp at *; omega)
  rw [show (Int.toNat 0).toUInt8 = 0 from rfl, index_nz, cellB, Bool.and_comm]
  have e : decide ((s.size : Int) ≤ 1024) = decide (s.size ≤ 1024) := by rw [Bool.eq_iff_iff, decide_eq_true_eq, decide_eq_true_eq]; omega
  rw [e]
  cases decide (s.size ≤ 1024) <;> rfl
def cells (l : List ByteArray) : Bool := l.all cellB
end Go.Proofs.YtlchjjchgebfiaaGreatDoor

/- Fit tables: the program's. -/
namespace Go.Proofs.YtlchjjchgebfiaaGreatDoor
open Go.RowKit Go.Dl
attribute [local irreducible] Tri SCall TSem ECall Drawn DFun QSem PSem PCall GCall MCall Round Weak dloadE OW DWl Tells IntKind.wrap Retold ESem
attribute [local irreducible] cellB rowB fitB
set_option maxRecDepth 20000 in
theorem cell83_D (s : ByteArray) (hs : s.size ≤ 140737488355328) : DPure Tryz.prog 83 [strV s] (bl (!cellB s)) := by
  refine DFun.body Tryz.func83 rfl (by kernel_rfl) ?_
  repeat' (first | with_reducible rfl | ((conv => whnf); first | refine And.intro ?_ ?_ | (intro h; first | with_reducible exact tf_no h | with_reducible exact ft_no h | exact Bool.noConfusion h | with_reducible exact h | (have ht : true = true := h; clear ht h) | skip) | ((with_reducible refine DWl.mark ?_); repeat' (first | refine DWl.cons ?_ ?_ | exact DWl.nil | exact DW.same _ rfl | exact DW.ref _ _ _ rfl | exact DW.arr _ _ _ rfl | exact DW.sub _ _ _ _ rfl | exact DW.nilLst _ | refine DW.aggl ?_ | refine DW.tupl ?_ | refine DW.clol ?_ ?_ | refine DW.int ?_ | refine DW.bool ?_ | refine DW.str ?_)) | ((with_reducible refine SCall.mark ?_); first | refine SCall.data (cell84_D s hs) rfl rfl ?_ | refine SCall.scal (cell84_D s hs) rfl rfl ?_) | ((with_reducible refine PCall.mark ?_); first | refine PCall.mk (cell84_D s hs) rfl rfl ?_) | ((with_reducible refine GCall.mark ?_); first | refine GCall.data (fun _ => cell84_D s hs) rfl rfl ?_ | refine GCall.scal (fun _ => cell84_D s hs) rfl rfl ?_) | ((with_reducible refine MCall.mark ?_); first | refine MCall.data (fun _ => cell84_D s hs) rfl rfl ?_ | refine MCall.plain (PCall.mk (cell84_D s hs) rfl rfl ?_)) | ((with_reducible refine ECall.mark ?_); first | refine ECall.only ?_ (fun h => nomatch h) | refine ECall.only ?_ ?_) | ((with_reducible refine Drawn.mark ?_); first | refine Drawn.quiet (by kernel_rfl) ?_) | refine dcell_ok rfl ?_ | refine AppC.new ?_))
  all_goals first | (with_reducible refine enters_mark ?_; kernel_rfl) | (with_reducible refine boolT_mark ?_; kernel_rfl) | rfl | trivial | assumption | exact Nat.le_of_ble_eq_true rfl | (show entersB _ _ = true; kernel_rfl) | exact DW.same _ rfl | exact DW.ref _ _ _ rfl | exact DW.arr _ _ _ rfl | refine DW.int ?_ | refine dvb ?_ | refine dvi ?_ | exact OW.cells rfl rfl (DWl.same rfl) | skip
  all_goals repeat' (first | exact OW.cells rfl rfl (DWl.same rfl) | refine OW.cells rfl rfl ?_ | exact DW.nilArr _ rfl | refine DW.clol ?_ ?_ | refine DWl.cons ?_ ?_ | exact DWl.nil | exact DW.same _ rfl | exact DW.ref _ _ _ rfl | exact DW.arr _ _ _ rfl | refine DW.int ?_)
  all_goals try (simp_all; done)
  all_goals try (simp at *; omega)
  done
/-- The place of the first one that is so, or -1. -/
def findI {α : Type} (p : α → Bool) (l : List α) : Int := if l.any p then (l.findIdx p : Nat) else -1
theorem getD_lt {α : Type} {l : List α} {d : α} {k : Nat} (h : k < l.length) : l.getD k d = l[k] := by rw [List.getD_eq_getElem?_getD, List.getElem?_eq_getElem h]; rfl
theorem find_at {α : Type} {p : α → Bool} {l : List α} {d : α} {i : Nat} (hi : i < l.length) (h0 : ∀ k, k < i → k < l.length → p (l.getD k d) = false) (h1 : p (l.getD (i : Int).toNat d) = true) : (i : Int) = findI p l := by
  rw [Int.toNat_natCast, getD_lt hi] at h1
  have ha : l.any p = true := List.any_eq_true.2 ⟨l[i], List.getElem_mem hi, h1⟩
  have hf : l.findIdx p = i := (List.findIdx_eq hi).2 ⟨h1, fun j hj => by
    have := h0 j hj (by omega)
    rw [getD_lt (by omega)] at this
    simpa using this⟩
  rw [findI, if_pos ha, hf]
theorem none_any {α : Type} {p : α → Bool} {l : List α} {d : α} {i : Nat} (h0 : ∀ k, k < i → k < l.length → p (l.getD k d) = false) (hi : l.length ≤ i) : l.any p = false := by
  rw [List.any_eq_false]
  intro x hx
  obtain ⟨k, hk, rfl⟩ := List.getElem_of_mem hx
  have := h0 k (by omega) hk
  rw [getD_lt hk] at this
  rw [this]; decide
theorem find_none {α : Type} {p : α → Bool} {l : List α} {d : α} {i : Nat} (h0 : ∀ k, k < i → k < l.length → p (l.getD k d) = false) (hi : l.length ≤ i) : -1 = findI p l := by
  rw [findI, none_any h0 hi]; rfl
theorem find_nn {α : Type} (p : α → Bool) (l : List α) : decide (0 ≤ findI p l) = l.any p := by
  rw [findI]
  cases l.any p with
  | true => rw [if_pos rfl]; exact decide_eq_true (by omega)
  | false => rfl
theorem none_next {α : Type} {l : List α} {p : α → Bool} {d : α} {i : Nat} (h : ∀ k, k < i → k < l.length → p (l.getD k d) = false) (h1 : p (l.getD (i : Int).toNat d) = false) : ∀ k, k < i + 1 → k < l.length → p (l.getD k d) = false := fun k hk hl => by
  rw [Int.toNat_natCast] at h1
  rcases Nat.lt_succ_iff_lt_or_eq.1 hk with h2 | h2
  · exact h k h2 hl
  · subst h2; exact h1
def badC (s : ByteArray) : Bool := !cellB s
def badR (n : Int) (l : List ByteArray) : Bool := !rowB l n
def ixSt (l : List ByteArray) (i : Nat) : St := ⟨0, tmOf [(0, strs l), (1, .clo (.func 83) [] []), (7, int1 (l.map strD).length), (8, int1 i)], .of [] 0⟩
set_option maxRecDepth 20000 in
theorem index107_D (l : List ByteArray) (hl : Sml l) : DPure Tryz.prog 107 [strs l, .clo (.func 83) [] []] (int1 (findI badC l)) := by
  have hc := fun s (h : s ∈ l) => cell83_D s (hl.2 s h)
  refine DFun.body Tryz.func107 rfl (by kernel_rfl) ?_
  repeat' (first | with_reducible rfl | ((conv => whnf); first | refine And.intro ?_ ?_ | (intro h; first | with_reducible exact tf_no h | with_reducible exact ft_no h | exact Bool.noConfusion h | with_reducible exact h | (have ht : true = true := h; clear ht h) | skip) | ((with_reducible refine DWl.mark ?_); repeat' (first | refine DWl.cons ?_ ?_ | exact DWl.nil | exact DW.same _ rfl | exact DW.ref _ _ _ rfl | exact DW.arr _ _ _ rfl | exact DW.sub _ _ _ _ rfl | exact DW.nilLst _ | refine DW.aggl ?_ | refine DW.tupl ?_ | refine DW.clol ?_ ?_ | refine DW.int ?_ | refine DW.bool ?_ | refine DW.str ?_)) | ((with_reducible refine SCall.mark ?_); first | refine SCall.data (hc _ ?_) rfl rfl ?_ | refine SCall.scal (hc _ ?_) rfl rfl ?_) | ((with_reducible refine PCall.mark ?_); first | refine PCall.mk (hc _ ?_) rfl rfl ?_) | ((with_reducible refine GCall.mark ?_); first | refine GCall.data (fun _ => hc _ ?_) rfl rfl ?_ | refine GCall.scal (fun _ => hc _ ?_) rfl rfl ?_) | ((with_reducible refine MCall.mark ?_); first | refine MCall.data (fun _ => hc _ ?_) rfl rfl ?_ | refine MCall.plain (PCall.mk (hc _ ?_) rfl rfl ?_)) | ((with_reducible refine Tri.mark ?_); first | refine Tri.loop (ixSt l) (fun i => i ≤ l.length ∧ ∀ k, k < i → k < l.length → badC (l.getD k ⟨#[]⟩) = false) (fun i => l.length - i) (0) (by kernel_rfl) (Weak.list [] [] ?_ ?_ ?_) ?_ ?_) | ((with_reducible refine Round.mark ?_); first | refine Round.go ((· + 1)) ?_ ?_ (Weak.list [] [] ?_ ?_ ?_)) | ((with_reducible refine ECall.mark ?_); first | refine ECall.only ?_ (fun h => nomatch h) | refine ECall.only ?_ ?_) | ((with_reducible refine Drawn.mark ?_); first | refine Drawn.quiet (by kernel_rfl) ?_) | refine dloadE_map ((⟨#[]⟩ : ByteArray)) ?_ ?_ | refine dcell_ok rfl ?_ | refine AppC.new ?_))
  all_goals first | (with_reducible refine enters_mark ?_; kernel_rfl) | (with_reducible refine boolT_mark ?_; kernel_rfl) | rfl | trivial | assumption | exact Nat.le_of_ble_eq_true rfl | (show entersB _ _ = true; kernel_rfl) | exact DW.same _ rfl | exact DW.ref _ _ _ rfl | exact DW.arr _ _ _ rfl | refine DW.int ?_ | refine dvb ?_ | refine dvi ?_ | exact OW.cells rfl rfl (DWl.same rfl) | skip
  all_goals repeat' (first | exact OW.cells rfl rfl (DWl.same rfl) | refine OW.cells rfl rfl ?_ | exact DW.nilArr _ rfl | refine DW.clol ?_ ?_ | refine DWl.cons ?_ ?_ | exact DWl.nil | exact DW.same _ rfl | exact DW.ref _ _ _ rfl | exact DW.arr _ _ _ rfl | refine DW.int ?_)
  all_goals try (simp_all; done)
  all_goals try (simp at *; omega)
  · rename_i i hi e0
    exact find_at (lt_of_test e0) hi.2 h
  · rename_i i hi e0 e1 k hk
    exact none_next (p := badC) hi.2 e1 k hk h
  · rename_i i hi e0
    exact wsucc (lt_of_test e0) (by have := hl.1; omega)
  · rename_i i hi
    exact find_none hi.2 (ge_of_test h)
set_option maxRecDepth 20000 in
theorem some82_D (l : List ByteArray) (hl : Sml l) : DPure Tryz.prog 82 [strs l, .clo (.func 83) [] []] (bl (l.any badC)) := by
  refine DFun.body Tryz.func82 rfl (by kernel_rfl) ?_
  repeat' (first | with_reducible rfl | ((conv => whnf); first | refine And.intro ?_ ?_ | (intro h; first | with_reducible exact tf_no h | with_reducible exact ft_no h | exact Bool.noConfusion h | with_reducible exact h | (have ht : true = true := h; clear ht h) | skip) | ((with_reducible refine DWl.mark ?_); repeat' (first | refine DWl.cons ?_ ?_ | exact DWl.nil | exact DW.same _ rfl | exact DW.ref _ _ _ rfl | exact DW.arr _ _ _ rfl | exact DW.sub _ _ _ _ rfl | exact DW.nilLst _ | refine DW.aggl ?_ | refine DW.tupl ?_ | refine DW.clol ?_ ?_ | refine DW.int ?_ | refine DW.bool ?_ | refine DW.str ?_)) | ((with_reducible refine SCall.mark ?_); first | refine SCall.data (index107_D l hl) rfl rfl ?_ | refine SCall.scal (index107_D l hl) rfl rfl ?_) | ((with_reducible refine PCall.mark ?_); first | refine PCall.mk (index107_D l hl) rfl rfl ?_) | ((with_reducible refine GCall.mark ?_); first | refine GCall.data (fun _ => index107_D l hl) rfl rfl ?_ | refine GCall.scal (fun _ => index107_D l hl) rfl rfl ?_) | ((with_reducible refine MCall.mark ?_); first | refine MCall.data (fun _ => index107_D l hl) rfl rfl ?_ | refine MCall.plain (PCall.mk (index107_D l hl) rfl rfl ?_)) | ((with_reducible refine ECall.mark ?_); first | refine ECall.only ?_ (fun h => nomatch h) | refine ECall.only ?_ ?_) | ((with_reducible refine Drawn.mark ?_); first | refine Drawn.quiet (by kernel_rfl) ?_) | refine dcell_ok rfl ?_ | refine AppC.new ?_))
  all_goals first | (with_reducible refine enters_mark ?_; kernel_rfl) | (with_reducible refine boolT_mark ?_; kernel_rfl) | rfl | trivial | assumption | exact Nat.le_of_ble_eq_true rfl | (show entersB _ _ = true; kernel_rfl) | exact DW.same _ rfl | exact DW.ref _ _ _ rfl | exact DW.arr _ _ _ rfl | refine DW.int ?_ | refine dvb ?_ | refine dvi ?_ | exact OW.cells rfl rfl (DWl.same rfl) | skip
  all_goals repeat' (first | exact OW.cells rfl rfl (DWl.same rfl) | refine OW.cells rfl rfl ?_ | exact DW.nilArr _ rfl | refine DW.clol ?_ ?_ | refine DWl.cons ?_ ?_ | exact DWl.nil | exact DW.same _ rfl | exact DW.ref _ _ _ rfl | exact DW.arr _ _ _ rfl | refine DW.int ?_)
  all_goals try (simp_all; done)
  all_goals try (simp at *; omega)
  exact find_nn _ _
theorem any_bad (l : List ByteArray) : (!l.any badC) = l.all cellB := by
  induction l with
  | nil => rfl
  | cons a l ih => rw [List.any_cons, List.all_cons, Bool.not_or, ih, badC, Bool.not_not]
set_option maxRecDepth 20000 in
theorem row49_D (l : List ByteArray) (n : Int) (hl : Sml l) : DPure Tryz.prog 49 [strs l, int1 n] (bl (rowB l n)) := by
  refine DFun.body Tryz.func49 rfl (by kernel_rfl) ?_
  repeat' (first | with_reducible rfl | ((conv => whnf); first | refine And.intro ?_ ?_ | (intro h; first | with_reducible exact tf_no h | with_reducible exact ft_no h | exact Bool.noConfusion h | with_reducible exact h | (have ht : true = true := h; clear ht h) | skip) | ((with_reducible refine DWl.mark ?_); repeat' (first | refine DWl.cons ?_ ?_ | exact DWl.nil | exact DW.same _ rfl | exact DW.ref _ _ _ rfl | exact DW.arr _ _ _ rfl | exact DW.sub _ _ _ _ rfl | exact DW.nilLst _ | refine DW.aggl ?_ | refine DW.tupl ?_ | refine DW.clol ?_ ?_ | refine DW.int ?_ | refine DW.bool ?_ | refine DW.str ?_)) | ((with_reducible refine SCall.mark ?_); first | refine SCall.data (some82_D l hl) rfl rfl ?_ | refine SCall.scal (some82_D l hl) rfl rfl ?_) | ((with_reducible refine PCall.mark ?_); first | refine PCall.mk (some82_D l hl) rfl rfl ?_) | ((with_reducible refine GCall.mark ?_); first | refine GCall.data (fun _ => some82_D l hl) rfl rfl ?_ | refine GCall.scal (fun _ => some82_D l hl) rfl rfl ?_) | ((with_reducible refine MCall.mark ?_); first | refine MCall.data (fun _ => some82_D l hl) rfl rfl ?_ | refine MCall.plain (PCall.mk (some82_D l hl) rfl rfl ?_)) | ((with_reducible refine ECall.mark ?_); first | refine ECall.only ?_ (fun h => nomatch h) | refine ECall.only ?_ ?_) | ((with_reducible refine Drawn.mark ?_); first | refine Drawn.quiet (by kernel_rfl) ?_) | refine dcell_ok rfl ?_ | refine AppC.new ?_))
  all_goals first | (with_reducible refine enters_mark ?_; kernel_rfl) | (with_reducible refine boolT_mark ?_; kernel_rfl) | rfl | trivial | assumption | exact Nat.le_of_ble_eq_true rfl | (show entersB _ _ = true; kernel_rfl) | exact DW.same _ rfl | exact DW.ref _ _ _ rfl | exact DW.arr _ _ _ rfl | refine DW.int ?_ | refine dvb ?_ | refine dvi ?_ | exact OW.cells rfl rfl (DWl.same rfl) | skip
  all_goals repeat' (first | exact OW.cells rfl rfl (DWl.same rfl) | refine OW.cells rfl rfl ?_ | exact DW.nilArr _ rfl | refine DW.clol ?_ ?_ | refine DWl.cons ?_ ?_ | exact DWl.nil | exact DW.same _ rfl | exact DW.ref _ _ _ rfl | exact DW.arr _ _ _ rfl | refine DW.int ?_)
  all_goals try (simp_all; done)
  all_goals try (simp at *; omega)
  rw [any_bad, rowB, List.length_map]
  cases e : ((l.length : Int) == n) with
  | true => rw [decide_eq_true (beq_iff_eq.1 e)]; rfl
  | false => rw [decide_eq_false (fun h => by rw [beq_iff_eq.2 h] at e; cases e)]; rfl
def hdL (t : Tb) : Int := ((t.head.map strD).length : Nat)
def p87 (t : Tb) (i : Nat) : St := ⟨⟨2, []⟩, tmOf [(0, rowsD t.rows), (1, .clo (.func 53) [] [.ref 1 0]), (7, int1 (t.rows.map rowD).length), (8, int1 i)], .of [(0, ⟨25, 2, tbD t⟩), (1, ⟨3, 1, [int1 (t.head.map strD).length]⟩)] 2⟩
theorem fit_all {t : Tb} {i : Nat} (hb : badH t = false) (h : ∀ k, k < i → k < t.rows.length → badR (t.head.map strD).length (t.rows.getD k []) = false) (hi : t.rows.length ≤ i) : true = fitB t :=
  fit_end hb (fun k h1 h2 => by have := h k h1 h2; rw [badR] at this; simpa using this) hi
attribute [local irreducible] badR badC
set_option maxRecDepth 20000 in
theorem fit19_D (t : Tb) (hs : SmlT t) : DPure Tryz.prog 19 [tab t] (bl (fitB t)) := by
  have hc := fun l (h : l ∈ t.rows) => row49_D l (t.head.map strD).length (hs.2.2 l h)
  have hh := row49_D t.head (t.head.map strD).length hs.1
  refine DFun.body Tryz.func19 rfl (by kernel_rfl) ?_
  repeat' (first | with_reducible rfl | ((conv => whnf); first | refine And.intro ?_ ?_ | (intro h; first | with_reducible exact tf_no h | with_reducible exact ft_no h | exact Bool.noConfusion h | with_reducible exact h | (have ht : true = true := h; clear ht h) | skip) | ((with_reducible refine DWl.mark ?_); repeat' (first | refine DWl.cons ?_ ?_ | exact DWl.nil | exact DW.same _ rfl | exact DW.ref _ _ _ rfl | exact DW.arr _ _ _ rfl | exact DW.sub _ _ _ _ rfl | exact DW.nilLst _ | refine DW.aggl ?_ | refine DW.tupl ?_ | refine DW.clol ?_ ?_ | refine DW.int ?_ | refine DW.bool ?_ | refine DW.str ?_)) | ((with_reducible refine SCall.mark ?_); first | refine SCall.run Tryz.func52 rfl (Nat.le_of_ble_eq_true rfl) (by kernel_rfl) ?_ | refine SCall.run Tryz.func87 rfl (Nat.le_of_ble_eq_true rfl) (by kernel_rfl) ?_ | refine SCall.run Tryz.func53 rfl (Nat.le_of_ble_eq_true rfl) (by kernel_rfl) ?_ | refine SCall.data (hh) rfl rfl ?_ | refine SCall.scal (hh) rfl rfl ?_ | refine SCall.data (hc _ ?_) rfl rfl ?_ | refine SCall.scal (hc _ ?_) rfl rfl ?_) | ((with_reducible refine PCall.mark ?_); first | refine PCall.mk (hh) rfl rfl ?_ | refine PCall.mk (hc _ ?_) rfl rfl ?_) | ((with_reducible refine GCall.mark ?_); first | refine GCall.data (fun _ => hh) rfl rfl ?_ | refine GCall.scal (fun _ => hh) rfl rfl ?_ | refine GCall.data (fun _ => hc _ ?_) rfl rfl ?_ | refine GCall.scal (fun _ => hc _ ?_) rfl rfl ?_) | ((with_reducible refine MCall.mark ?_); first | refine MCall.data (fun _ => hh) rfl rfl ?_ | refine MCall.plain (PCall.mk (hh) rfl rfl ?_) | refine MCall.data (fun _ => hc _ ?_) rfl rfl ?_ | refine MCall.plain (PCall.mk (hc _ ?_) rfl rfl ?_)) | ((with_reducible refine Tri.mark ?_); first | refine Tri.loop (p87 t) (fun i => i ≤ t.rows.length ∧ ∀ k, k < i → k < t.rows.length → badR (t.head.map strD).length (t.rows.getD k []) = false) (fun i => t.rows.length - i) (0) (by kernel_rfl) (Weak.list [] [] ?_ ?_ ?_) ?_ ?_) | ((with_reducible refine Round.mark ?_); first | refine Round.go ((· + 1)) ?_ ?_ (Weak.list [] [] ?_ ?_ ?_)) | ((with_reducible refine ECall.mark ?_); first | refine ECall.only ?_ (fun h => nomatch h) | refine ECall.only ?_ ?_) | ((with_reducible refine Drawn.mark ?_); first | refine Drawn.quiet (by kernel_rfl) ?_) | refine dloadE_map (([] : List ByteArray)) ?_ ?_ | refine dcell_ok rfl ?_ | refine AppC.new ?_))
  all_goals first | (with_reducible refine enters_mark ?_; kernel_rfl) | (with_reducible refine boolT_mark ?_; kernel_rfl) | rfl | trivial | assumption | exact Nat.le_of_ble_eq_true rfl | (show entersB _ _ = true; kernel_rfl) | exact DW.same _ rfl | exact DW.ref _ _ _ rfl | exact DW.arr _ _ _ rfl | refine DW.int ?_ | refine dvb ?_ | refine dvi ?_ | exact OW.cells rfl rfl (DWl.same rfl) | skip
  all_goals repeat' (first | exact OW.cells rfl rfl (DWl.same rfl) | refine OW.cells rfl rfl ?_ | exact DW.nilArr _ rfl | refine DW.clol ?_ ?_ | refine DWl.cons ?_ ?_ | exact DWl.nil | exact DW.same _ rfl | exact DW.ref _ _ _ rfl | exact DW.arr _ _ _ rfl | refine DW.int ?_)
  all_goals try (simp_all; done)
  all_goals try (simp at *; omega)
  · exact fit_bad h
  · rename_i i hi e0
    exact fit_no (lt_of_test e0) h
  · rename_i i hi e0 e1 k hk
    exact none_next (p := badR (t.head.map strD).length) hi.2 (by rw [badR]; exact e1) k hk h
  · rename_i i hi e0
    exact wsucc (lt_of_test e0) (by have := hs.2.1; omega)
  · rename_i e9 i hi
    exact fit_all (by assumption) hi.2 (ge_of_test h)
end Go.Proofs.YtlchjjchgebfiaaGreatDoor
