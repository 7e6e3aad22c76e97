/- What is known of the variables; the kit's contracts met: numbers written and read, texts joined, repeated, cut at their end, looked through. -/
import Derived.Test.YtlchjjchgebfiaaGreatDoorPkH
import Derived.Test.YtlchjjchgebfiaaGreatDoorDp31
import Derived.Stop.LaidErr
import Derived.Lib.LaidTab
import Derived.Lib.AtoiErrMem
import Derived.Shelf.Strings.OnBuilder
import Derived.Lib.Join
import Derived.KernelRfl
import Derived.Shelf.Strings.Repeat
import Derived.Shelf.Strings.Trim
import Derived.Shelf.Strings.Prefix
import Derived.Shelf.Small.Strs
import Derived.Shelf.Strings.Replace
import Derived.Shelf.Strings.IndexAnyAll
import Derived.Test.YtlchjjchgebfiaaGreatDoorDp26
import Derived.Test.YtlchjjchgebfiaaGreatDoorDp32
import Derived.Shelf.Strings.Builder1

namespace Go.Proofs.YtlchjjchgebfiaaGreatDoor
open Go.RowKit Go.Dl
abbrev errSyn : String := "strconv.ErrSyntax"
abbrev errRan : String := "strconv.ErrRange"
def powN : String := ((Rows.tableFitsRow.laid.map (·.1)).getD 2 "")
def okD (w : World) : Prop := (∃ m, w.cell? ⟨0, 0, none⟩ = some (.int .i64 m)) ∧ (∃ tp p, w.var? Tryz.prog errSyn = some #[.iface tp p]) ∧ (∃ tp p, w.var? Tryz.prog errRan = some #[.iface tp p]) ∧ Lib.TabIs Tryz.prog w powN .u64 Lib.pow10Tab
theorem var_lt {P : Program} {w : World} {n : String} {cs : Array Value} {g : Nat} (hg : P.globalNamed n = some g) (h : w.var? P n = some cs) : g < w.heap.size := by
  unfold World.var? at h
  rw [hg] at h
  rcases Nat.lt_or_ge g w.heap.size with h' | h'
  · exact h'
  · simp [Array.getElem?_eq_none h'] at h
theorem gSyn : Tryz.prog.globalNamed errSyn = some 2 := by kernel_rfl
theorem gRan : Tryz.prog.globalNamed errRan = some 3 := by kernel_rfl
theorem gPow : Tryz.prog.globalNamed powN = some 1 := by kernel_rfl
theorem okD_mono {w0 w : World} (hb : Below w0.heap.size w0 w) (h : okD w0) : okD w := by
  obtain ⟨⟨m, h1⟩, ⟨t2, p2, h2⟩, ⟨t3, p3, h3⟩, h4⟩ := h
  refine ⟨⟨m, ?_⟩, ⟨t2, p2, ?_⟩, ⟨t3, p3, ?_⟩, ?_⟩
  · rw [World.cell?_of_block (w := w0) (a := ⟨0, 0, none⟩) (hb.block 0 (World.block_lt_of_cell? _ _ h1))]; exact h1
  · exact var?_below hb gSyn (var_lt gSyn h2) h2
  · exact var?_below hb gRan (var_lt gRan h3) h3
  · exact var?_below hb gPow (var_lt gPow h4) h4
instance : Inhabited GlobS := ⟨⟨okD, okD_mono, false⟩⟩
def str (l : List UInt8) : DV := .v (.string ⟨l.toArray⟩)
def int1 (x : Int) : DV := .v (.int .i64 x)
theorem below_grow (w : World) (k : Nat) (os : Array Obj) : Below w.heap.size w (Sort.grow (w.drewN k) os) := by
  refine ⟨rfl, rfl, rfl, by simp [Sort.grow, World.drewN], fun i hi => ?_⟩
  simp [Sort.grow, World.drewN, Array.getElem?_append, hi]
def bs (l : List UInt8) : ByteArray := ⟨l.toArray⟩
def numB (n : Int) : ByteArray := bs (Lib.itoa n)
def strV (s : ByteArray) : DV := .v (.string s)
def bl (b : Bool) : DV := .v (.bool b)
theorem fmt96_D (n : Int) (h0 : -9223372036854775808 ≤ n) (h1 : n ≤ 9223372036854775807) : DPure Tryz.prog 96 [int1 n, int1 10] (strV (numB n)) :=
  DPure.kit (args := [.int .i64 n, .int .i64 10]) fun w hg => (Any.strconv_FormatInt_10 Tryz.laysFormat n h0 h1 w hg.2.2.2).mono fun e w' ⟨he, k, os, hw⟩ => by
    subst hw
    exact ⟨_, he, below_grow w k os, fun F hF => .data (.v _ rfl)⟩
theorem below_bytes (w : World) (t : TypeId) (s : ByteArray) : Below w.heap.size w (Lib.bytesWorld w t s) := Lib.bytesWorld_below w t s
def parseP (s : ByteArray) : DV := match Lib.parseIntB 64 s.data.toList with
  | .ok v => .tup [int1 v, .v .nilIface]
  | .range => .tup [int1 (Lib.intSat 64 s.data.toList), .ifc 176 .dead]
  | _ => .tup [int1 0, .ifc 176 .dead]
theorem rv_err {w : World} {F : Nat → Prop} {β : Beta} {x : Int} {v : Value} {t : TypeId} : RV w F β (.tup [int1 x, .ifc t .dead]) (.tuple #[.int .i64 x, .iface t v]) :=
  .tup _ [.int .i64 x, .iface t v] rfl (fun j d y h1 h2 => by
    match j, h1, h2 with
    | 0, h1, h2 => cases h1; cases h2; exact .data (.v _ rfl)
    | 1, h1, h2 => cases h1; cases h2; exact .ifc _ _ _ (.dead _))
theorem rv_num {w : World} {F : Nat → Prop} {β : Beta} {x : Int} : RV w F β (.tup [int1 x, .v .nilIface]) (.tuple #[.int .i64 x, .nilIface]) :=
  .tup _ [.int .i64 x, .nilIface] rfl (fun j d y h1 h2 => by
    match j, h1, h2 with
    | 0, h1, h2 => cases h1; cases h2; exact .data (.v _ rfl)
    | 1, h1, h2 => cases h1; cases h2; exact .data (.v _ rfl))
theorem parse95_D (s : ByteArray) (hs : s.size ≤ 281474976710656) : DPure Tryz.prog 95 [.v (.string s), int1 10, int1 64] (parseP s) := by
  refine DPure.kit (args := [.string s, .int .i64 10, .int .i64 64]) fun w hg => ?_
  obtain ⟨_, ⟨t2, p2, h2⟩, ⟨t3, p3, h3⟩, _⟩ := hg
  unfold parseP
  cases h : Lib.parseIntB 64 s.data.toList with
  | ok v =>
    refine (Any.strconv_ParseInt_10_at64_ok Tryz.laysParse s (by omega) v h w).mono fun e w' ⟨he, hw⟩ => ?_
    refine ⟨_, he, ?_, fun F hF => rv_num⟩
    rcases hw with rfl | ⟨t, rfl⟩
    · exact Below.refl _ _
    · exact below_bytes _ _ _
  | range =>
    refine (Any.strconv_ParseInt_10_at64_range_var Tryz.laysParse s hs h t3 p3 w h3).mono fun e w' ⟨N, he, _, _, hb⟩ => ?_
    exact ⟨_, he, hb, fun F hF => rv_err⟩
  | _ =>
    refine (Any.strconv_ParseInt_10_at64_syntax_var Tryz.laysParse s hs h t2 p2 w h2).mono fun e w' ⟨N, he, _, _, hb⟩ => ?_
    exact ⟨_, he, hb, fun F hF => rv_err⟩
def strD (x : ByteArray) : List DV := [.v (.string x)]
def strs (l : List ByteArray) : DV := .lst 1 (l.map strD)
def joinB (sep : ByteArray) (ws : List ByteArray) : ByteArray := bs (Lib.join (ws.map (·.data.toList)) sep.data.toList)
theorem extraJ : Builder.Extra Tryz.prog Tryz.laysJoin_ren where
  sizeBuilder := by kernel_rfl
  liesBuilder := by kernel_rfl
  t5 := Tryz.underlying5
  a5 := Tryz.isAgg5
  z5 := Tryz.sizeOf5
  v5 := Tryz.zeroValue5
  infoByte := by kernel_rfl
  cellsByte := by kernel_rfl
  sizeByte := by kernel_rfl
  neB5 := by decide
theorem DPure.kitS {f : FuncId} {ws : List ByteArray} {sep : ByteArray} {r : DV} (h : ∀ (w : World) (a : Option Addr) (bk o c : Nat), Gok w → (ws ≠ [] → a = some ⟨bk, o, none⟩) → (∀ (j : Nat) x, ws[j]? = some x → w.cell? ⟨bk, o + j, none⟩ = some (.string x)) → ws.length ≤ c →
      Calls Tryz.prog f #[.slice a ws.length c, .string sep] w fun e w' => ∃ v, e = .returned v ∧ Below w.heap.size w w' ∧ ∀ F : Nat → Prop, (∀ b, w.heap.size ≤ b → F b) → RV w' F (fun _ => none) r v) (hdr : Drs = false := by rfl) :
    DPure Tryz.prog f [strs ws, .v (.string sep)] r := fun w F vals hg hF hx => by
  match vals, hx.1 with
  | [x0, x1], _ =>
  have e1 : x1 = .string sep := rv_v (hx.2 1 _ _ rfl rfl)
  subst e1
  have h0 := hx.2 0 _ _ rfl rfl
  have key : ∃ a bk o c, x0 = .slice a ws.length c ∧ (ws ≠ [] → a = some ⟨bk, o, none⟩) ∧ (∀ (j : Nat) x, ws[j]? = some x → w.cell? ⟨bk, o + j, none⟩ = some (.string x)) ∧ ws.length ≤ c := by
    unfold strs at h0
    generalize hes : ws.map strD = es at h0
    cases h0 with
    | data hd =>
      cases hd with
      | lst _ _ a b off cap g ha hn hc hm hsz hcell hd =>
        have hl : es.length = ws.length := by rw [← hes, List.length_map]
        refine ⟨a, b, off, cap, by rw [hl], fun hne => ha (fun e => hne (by rw [e] at hl; exact List.eq_nil_of_length_eq_zero hl.symm)), fun j x hj => ?_, by omega⟩
        have h1 : es[j]? = some [DV.v (.string x)] := by rw [← hes, List.getElem?_map, hj]; rfl
        have h2 := (hcell j _ 0 _ h1 rfl).1
        have h3 := hd j _ 0 _ h1 rfl
        rw [Nat.mul_one, Nat.add_zero] at h2
        have e : g j 0 = .string x := rv_v (RV.data (β := fun _ => none) h3)
        rw [h2, e]
  obtain ⟨a, bk, o, c, rfl, k1, k2, k3⟩ := key
  refine (h w a bk o c hg k1 k2 k3).mono fun e w' ⟨v, he, hb, hr⟩ => ?_
  obtain ⟨k1, _⟩ := (SRel.empty w F hg hF).below' (.of hb fun e => by rw [hdr] at e; cases e)
  refine ⟨v, r, _, _, he, rfl, k1, (hr F hF).mono (fun _ _ h => h) fun b hb hFb => ⟨⟨hFb, ?_⟩, rfl⟩⟩
  rcases Nat.lt_or_ge b w.heap.size with hlt | hge
  · exact .inl hlt
  · exact .inr ⟨hge, fun i c hi => by cases hi⟩
theorem join38_D (ws : List ByteArray) (sep : ByteArray) (h1 : 1 ≤ ws.length) (hlen : (joinB sep ws).size ≤ 140737488355328) (hw : ws.length ≤ 140737488355328) : DPure Tryz.prog 38 [strs ws, strV sep] (strV (joinB sep ws)) :=
  DPure.kitS fun w a bk o c hg ha hcells hc => by
    have hne : ws ≠ [] := fun e => by rw [e] at h1; exact absurd h1 (by decide)
    rw [ha hne]
    obtain ⟨x, hx⟩ : ∃ x, ws[0]? = some x := ⟨_, List.getElem?_eq_getElem (by omega)⟩
    have hbk : bk < w.heap.size := World.block_lt_of_cell? w _ (hcells 0 x hx)
    refine (Any.strings_Join Tryz.laysJoin extraJ bk o c ws sep w hcells hbk hw hc (by
      have e : (joinB sep ws).size = (Lib.join (ws.map (·.data.toList)) sep.data.toList).length := by show (Lib.join (ws.map (·.data.toList)) sep.data.toList).toArray.size = _; simp
      rw [e] at hlen; exact hlen)).mono fun e w' ⟨he, hb⟩ => ?_
    exact ⟨_, he, hb, fun F hF => .data (.v _ rfl)⟩
def repB (s : ByteArray) (n : Nat) : ByteArray := bs (Lib.repeatL s.data.toList n)
theorem extraR : Builder.Extra Tryz.prog Tryz.laysRepeat_ren where
  sizeBuilder := by kernel_rfl
  liesBuilder := by kernel_rfl
  t5 := Tryz.underlying5
  a5 := Tryz.isAgg5
  z5 := Tryz.sizeOf5
  v5 := Tryz.zeroValue5
  infoByte := by kernel_rfl
  cellsByte := by kernel_rfl
  sizeByte := by kernel_rfl
  neB5 := by decide
theorem rep33_D (s : ByteArray) (n : Nat) (hn : n ≤ 9223372036854775807) (hl : s.size * n ≤ 140737488355328) : DPure Tryz.prog 33 [strV s, int1 n] (strV (repB s n)) :=
  DPure.kit (args := [.string s, .int .i64 n]) fun w _ => (Any.strings_Repeat Tryz.laysRepeat extraR s n w hn hl).mono fun e w' ⟨he, hb⟩ => ⟨_, he, hb, fun F hF => .data (.v _ rfl)⟩
def trimB (s : ByteArray) : ByteArray := bs (Lib.trimRightB s.data.toList 32)
def spaceB : ByteArray := ⟨#[32]⟩
theorem trim37_D (s : ByteArray) (hs : s.size ≤ 9223372036854775807) : DPure Tryz.prog 37 [strV s, strV spaceB] (strV (trimB s)) :=
  DPure.kit (args := [.string s, .string spaceB]) fun w _ => (Any.strings_TrimRight_one Tryz.laysTrim s 32 (by decide) w hs).mono fun e w' ⟨he, hw⟩ => ⟨_, he, by rw [hw]; exact Below.refl _ _, fun F hF => .data (.v _ rfl)⟩
theorem prefix67_D (s p : ByteArray) : DPure Tryz.prog 67 [strV s, strV p] (bl (Lib.hasPrefix s.data.toList p.data.toList)) :=
  DPure.kit (args := [.string s, .string p]) fun w _ => (Any.strings_HasPrefix Tryz.laysPrefix s p w).mono fun e w' ⟨he, hw⟩ => ⟨_, he, by rw [hw]; exact Below.refl _ _, fun F hF => .data (.v _ rfl)⟩
theorem byte108_D (s : ByteArray) (c : Int) : DPure Tryz.prog 108 [strV s, .v (.int .u8 c)] (int1 (Lib.indexByte s.data.toList c.toNat.toUInt8)) :=
  DPure.kit (args := [.string s, .int .u8 c]) fun w _ => (Any.strings_IndexByte Tryz.laysByte s c w).mono fun e w' ⟨he, hw⟩ => ⟨_, he, by rw [hw]; exact Below.refl _ _, fun F hF => .data (.v _ rfl)⟩
theorem wrap64 {k : Nat} (h : k < 9223372036854775808) : IntKind.i64.wrap (k : Int) = k := by
  simp [IntKind.wrap, IntKind.bits, IntKind.signed]; omega
theorem wrapI {x : Int} (h : -9223372036854775808 ≤ x) (h2 : x < 9223372036854775808) : IntKind.i64.wrap x = x := by
  simp [IntKind.wrap, IntKind.bits, IntKind.signed]; omega
theorem take_succ {α : Type} {a : List α} {d : α} {k : Nat} (hk : k < a.length) : a.take (k + 1) = a.take k ++ [a.getD k d] := by
  rw [List.take_add_one, List.getElem?_eq_getElem hk, List.getD_eq_getElem?_getD, List.getElem?_eq_getElem hk]; rfl
theorem wsucc {k n : Nat} (h : k < n) (hn : n ≤ 9223372036854775807) : IntKind.i64.wrap ((k : Int) + 1) = ((k + 1 : Nat) : Int) := by
  have := wrap64 (k := k + 1) (by omega)
  simpa using this
theorem lt_of_test {k : Nat} {α : Type} {f : α → List DV} {l : List α} (h : decide ((k : Int) < ((l.map f).length : Nat)) = true) : k < l.length := by simpa using h
theorem ge_of_test {k : Nat} {α : Type} {f : α → List DV} {l : List α} (h : decide ((k : Int) < ((l.map f).length : Nat)) = false) : l.length ≤ k := by simpa using h
theorem lt_int {k n : Nat} (h : decide ((k : Int) < (n : Int)) = true) : k < n := by simpa using h
theorem ge_int {k n : Nat} (h : decide ((k : Int) < (n : Int)) = false) : n ≤ k := by simpa using h
theorem _root_.Go.Dl.DWl.eq {ρ : Nat → Option Nat} {s : Sto} {pub : Nat → Prop} {X Y : List DV} (h : X = Y) (hall : Y.all noId1 = true) : DWl ρ s pub X Y := by rw [h]; exact DWl.same hall
theorem ba_eq {a b : ByteArray} : (a == b) = true ↔ a = b := by
  obtain ⟨a⟩ := a
  obtain ⟨b⟩ := b
  show (a == b) = true ↔ _
  simp
end Go.Proofs.YtlchjjchgebfiaaGreatDoor

namespace Go.Proofs.YtlchjjchgebfiaaGreatDoor
open Go.RowKit Go.Dl
structure Tb where
  head : List ByteArray
  rows : List (List ByteArray)
def rowD (l : List ByteArray) : List DV := [strs l]
def rowsD (l : List (List ByteArray)) : DV := .lst 1 (l.map rowD)
def tbD (t : Tb) : List DV := [strs t.head, rowsD t.rows]
def tab (t : Tb) : DV := .agg (tbD t)
theorem tab25 : fldTab Tryz.prog 25 = some [(22, 0, 1), (23, 1, 1)] := by kernel_rfl
theorem cells25 : Tryz.prog.cellsOf 25 = 2 := by kernel_rfl
theorem cells22 : Tryz.prog.cellsOf 22 = 1 := by kernel_rfl
theorem bytes22 : Tryz.prog.bytesOf 22 = 24 := by kernel_rfl
theorem bytes9 : Tryz.prog.bytesOf 9 = 16 := by kernel_rfl
theorem cells9 : Tryz.prog.cellsOf 9 = 1 := by kernel_rfl
theorem isS25 : isStructT Tryz.prog 25 = true := by kernel_rfl
set_option maxRecDepth 20000 in
theorem str_row (r : List DV) (h : Shp Tryz.prog 9 r) : ∃ s : ByteArray, r = strD s ∧ s.size ≤ 140737488355328 := by
  obtain ⟨s, e, h⟩ := Shp.str_inv Tryz.underlying9 h
  exact ⟨s, e, Nat.le_trans h (Nat.le_of_ble_eq_true rfl)⟩
def Sml (l : List ByteArray) : Prop := l.length * 16 ≤ 140737488355328 ∧ ∀ s ∈ l, s.size ≤ 140737488355328
set_option maxRecDepth 20000 in
theorem strs_in {r : List DV} (h : Shp Tryz.prog 22 r) : ∃ l : List ByteArray, r = rowD l ∧ Sml l := by
  obtain ⟨l, h1, h2, h3⟩ := Shp.slice_inv Tryz.underlying22 str_row h
  rw [cells9] at h1
  rw [bytes9] at h2
  exact ⟨l, h1, Nat.le_trans h2 (Nat.le_of_ble_eq_true rfl), h3⟩
theorem strs_row (r : List DV) (h : Shp Tryz.prog 22 r) : ∃ l : List ByteArray, r = rowD l ∧ Sml l := strs_in h
def SmlT (t : Tb) : Prop := Sml t.head ∧ t.rows.length * 24 ≤ 140737488355328 ∧ ∀ r ∈ t.rows, Sml r
set_option maxRecDepth 20000 in
theorem tab_arg {d : DV} (h : ShpV Tryz.prog 25 d) : ∃ t : Tb, d = tab t ∧ SmlT t := by
  obtain ⟨ds, rfl, h2⟩ := ShpV.agg isS25 h
  obtain ⟨hl, h1, h2, _⟩ := Shp.struct_inv tab25 h2
  rw [cells25] at hl
  match ds, hl with
  | [a, b], _ =>
    obtain ⟨l, e1, g1⟩ := strs_in h1
    obtain ⟨m, e2, g2, g3⟩ := Shp.slice_inv Tryz.underlying23 strs_row h2
    rw [cells22] at e2
    rw [bytes22] at g2
    cases e1; cases e2
    exact ⟨⟨l, m⟩, rfl, g1, Nat.le_trans g2 (Nat.le_of_ble_eq_true rfl), g3⟩
theorem Tryz.own : ownKnob Tryz.prog.godebug = none := by kernel_rfl
theorem Tryz.laidOut : laidOutB Tryz.prog = true := by kernel_rfl
abbrev laidL : List (String × DataW Unit) := Rows.tableFitsRow.laid
theorem gSynT : (Tryz.prog.globals[2]?).map (·.type) = some 68 := by kernel_rfl
theorem gRanT : (Tryz.prog.globals[3]?).map (·.type) = some 68 := by kernel_rfl
theorem gPowT : ∃ t, (Tryz.prog.globals[1]?).map (·.type) = some t ∧ Tryz.prog.underlying t = some (.array 20 42) ∧ Tryz.prog.cellsOf t = 20 := ⟨_, rfl, by kernel_rfl, by kernel_rfl⟩
def starN : String := match (Rows.laid_strconv_ErrRange : DataW Unit) with
  | .iface nm _ => nm
  | _ => powN
theorem row196 (u : TypeId) (h : Tryz.prog.typeName? 3 u = some starN) : u = 196 :=
  typeName_ptr_named (nm := "errors.errorString") (by kernel_rfl) (by kernel_rfl) (by decide) u (h.trans (congrArg some (by kernel_rfl)))
theorem cells198 : Tryz.prog.cellsOf 198 = 1 := by kernel_rfl
theorem cells42 : Tryz.prog.cellsOf 42 = 1 := by kernel_rfl
theorem plainL : (laidL.all fun x => x.2.handleName?.isNone) = true := by kernel_rfl
theorem gok_of {W : World} (hL : laidMetH Tryz.prog laidL W) (hsh : W.ShapedOpen Tryz.prog) : Gok W := by
  rw [MakeChecks.laidMetH_plain _ _ _ plainL] at hL
  obtain ⟨t, ht, hu, hc⟩ := gPowT
  have h2 := hL.tail.tail
  have h4 := h2.tail.tail
  have h5 := h4.tail
  obtain ⟨a1, s1, hv1, -, -, -⟩ := laid_sentinel h4 gRan gRanT Tryz.underlying68 row196 Tryz.underlying196 Tryz.underlying198 rfl rfl Tryz.underlying9 cells198 cells9
  obtain ⟨a0, s0, hv0, -, -, -⟩ := laid_sentinel h5 gSyn gSynT Tryz.underlying68 row196 Tryz.underlying196 Tryz.underlying198 rfl rfl Tryz.underlying9 cells198 cells9
  refine ⟨Tryz.laysReplace.s1_3 W hsh, ⟨_, _, hv0⟩, ⟨_, _, hv1⟩, ?_⟩
  exact Lib.tabIs_of_head (g := 1) (t := t) (e := 42) (n := 20) gPow ht hu Tryz.underlying42 cells42 hc h2
end Go.Proofs.YtlchjjchgebfiaaGreatDoor
namespace Go.Proofs.YtlchjjchgebfiaaGreatDoor
open Go.RowKit Go.Dl
attribute [local irreducible] Tri SCall TSem ECall Drawn DFun QSem PSem PCall GCall MCall Round Weak dloadE OW DWl Tells IntKind.wrap Retold ESem
theorem all_end {α : Type} {l : List α} {p : α → Bool} {d : α} {i : Nat} (h : ∀ k, k < i → k < l.length → p (l.getD k d) = true) (hi : l.length ≤ i) : l.all p = true := by
  rw [List.all_eq_true]
  intro x hx
  obtain ⟨k, hk, rfl⟩ := List.getElem_of_mem hx
  have := h k (by omega) hk
  rw [List.getD_eq_getElem?_getD, List.getElem?_eq_getElem hk] at this
  exact this
theorem all_no {α : Type} {l : List α} {p : α → Bool} {d : α} {i : Nat} (hi : i < l.length) (h : p (l.getD i d) = false) : l.all p = false := by
  cases e : l.all p with
  | false => rfl
  | true =>
    have := List.all_eq_true.1 e (l.getD i d) (by rw [List.getD_eq_getElem?_getD, List.getElem?_eq_getElem hi]; exact List.getElem_mem hi)
    rw [h] at this; cases this
theorem all_next {α : Type} {l : List α} {p : α → Bool} {d : α} {i : Nat} (h : ∀ k, k < i → k < l.length → p (l.getD k d) = true) (h1 : p (l.getD i d) = true) : ∀ k, k < i + 1 → k < l.length → p (l.getD k d) = true := fun k hk hl => by
  rcases Nat.lt_succ_iff_lt_or_eq.1 hk with h2 | h2
  · exact h k h2 hl
  · subst h2; exact h1
def nz (b : UInt8) : Bool := !(b == 0)
def cellB (s : ByteArray) : Bool := s.data.toList.all nz && decide (s.size ≤ 1024)
def rowB (l : List ByteArray) (n : Int) : Bool := decide ((l.length : Int) = n) && l.all cellB
def badH (t : Tb) : Bool := bif bif bif decide (((t.head.map strD).length : Int) < 1) then true else decide (64 < ((t.head.map strD).length : Int)) then true else decide (4096 < ((t.rows.map rowD).length : Int)) then true else !rowB t.head (t.head.map strD).length
def fitB (t : Tb) : Bool := !badH t && t.rows.all fun r => rowB r (t.head.map strD).length
theorem sz_len (s : ByteArray) : s.data.toList.length = s.size := Array.length_toList
theorem byte_t {s : ByteArray} {k : Nat} (h : (byteAt s (k : Int).toNat == 0) = true) : nz (s.data.toList.getD k 0) = false := by
  rw [Int.toNat_natCast] at h
  unfold byteAt at h
  unfold nz
  generalize s.data.toList.getD k 0 = b at h ⊢
  have h := beq_iff_eq.1 h
  have : b = 0 := UInt8.toNat_inj.1 (show b.toNat = 0 by omega)
  subst this; rfl
theorem byte_f {s : ByteArray} {k : Nat} (h : (byteAt s (k : Int).toNat == 0) = false) : nz (s.data.toList.getD k 0) = true := by
  rw [Int.toNat_natCast] at h
  unfold byteAt at h
  unfold nz
  generalize s.data.toList.getD k 0 = b at h ⊢
  cases e : b == 0 with
  | false => rfl
  | true => have e := beq_iff_eq.1 e
            subst e; cases h
theorem cell_no {s : ByteArray} {k : Nat} (hk : k < s.size) (h : (byteAt s (k : Int).toNat == 0) = true) : false = cellB s := by
  rw [cellB, all_no (d := 0) (by rw [sz_len]; exact hk) (byte_t h)]; rfl
theorem cell_end {s : ByteArray} {i : Nat} (h : ∀ k, k < i → k < s.data.toList.length → nz (s.data.toList.getD k 0) = true) (hi : s.size ≤ i) : decide ((s.size : Int) ≤ 1024) = cellB s := by
  rw [cellB, all_end h (by rw [sz_len]; exact hi), Bool.true_and, Bool.eq_iff_iff, decide_eq_true_eq, decide_eq_true_eq]; omega
theorem mem_at {α : Type} {l : List α} {d : α} {i : Nat} (hi : i < l.length) : l.getD (i : Int).toNat d ∈ l := by
  rw [Int.toNat_natCast, List.getD_eq_getElem?_getD, List.getElem?_eq_getElem hi]; exact List.getElem_mem hi
theorem row_bad {l : List ByteArray} {n : Int} (h : (((l.map strD).length : Int) != n) = true) : false = rowB l n := by
  rw [List.length_map] at h
  rw [rowB, decide_eq_false (by simpa using h)]; rfl
theorem row_no {l : List ByteArray} {n : Int} {i : Nat} (hi : i < l.length) (h : (!cellB (l.getD (i : Int).toNat ⟨#[]⟩)) = true) : false = rowB l n := by
  rw [Int.toNat_natCast] at h
  rw [rowB, all_no hi (by simpa using h), Bool.and_false]
theorem row_end {l : List ByteArray} {n : Int} {i : Nat} (h : ∀ k, k < i → k < l.length → cellB (l.getD k ⟨#[]⟩) = true) (hi : l.length ≤ i) (hn : (((l.map strD).length : Int) != n) = false) : true = rowB l n := by
  rw [List.length_map] at hn
  rw [rowB, all_end h hi, decide_eq_true (by simpa using hn)]; rfl
def cellSt (s : ByteArray) (i : Nat) : St := ⟨0, tmOf [(0, strV s), (3, int1 i)], .of [] 0⟩
set_option maxRecDepth 20000 in
theorem cell86_D (s : ByteArray) (hs : s.size ≤ 140737488355328) : DPure Tryz.prog 86 [strV s] (bl (cellB s)) := by
  refine DFun.body Tryz.func86 rfl (by kernel_rfl) ?_
  repeat' (first | with_reducible rfl | ((conv => whnf); first | refine And.intro ?_ ?_ | (intro h; first | with_reducible exact tf_no h | with_reducible exact ft_no h | exact Bool.noConfusion h | with_reducible exact h | (have ht : true = true := h; clear ht h) | skip) | ((with_reducible refine DWl.mark ?_); repeat' (first | refine DWl.cons ?_ ?_ | exact DWl.nil | exact DW.same _ rfl | exact DW.ref _ _ _ rfl | exact DW.arr _ _ _ rfl | exact DW.sub _ _ _ _ rfl | exact DW.mo _ _ rfl | exact DW.nilLst _ | refine DW.aggl ?_ | refine DW.tupl ?_ | refine DW.clol ?_ ?_ | refine DW.int ?_ | refine DW.bool ?_ | refine DW.str ?_)) | ((with_reducible refine Tri.mark ?_); first | refine Tri.loop (cellSt s) (fun i => i ≤ s.size ∧ ∀ k, k < i → k < s.data.toList.length → nz (s.data.toList.getD k 0) = true) (fun i => s.size - i) (0) (by kernel_rfl) (Weak.list [] [] ?_ ?_ ?_) ?_ ?_) | ((with_reducible refine Round.mark ?_); first | refine Round.go ((· + 1)) ?_ ?_ (Weak.list [] [] ?_ ?_ ?_)) | ((with_reducible refine ECall.mark ?_); first | refine ECall.only ?_ (fun h => nomatch h) | refine ECall.only ?_ ?_) | ((with_reducible refine Drawn.mark ?_); first | refine Drawn.quiet (by kernel_rfl) ?_) | refine dcell_ok rfl ?_ | refine AppC.new ?_))
  all_goals first | (with_reducible refine enters_mark ?_; kernel_rfl) | (with_reducible refine boolT_mark ?_; kernel_rfl) | rfl | trivial | assumption | exact Nat.le_of_ble_eq_true rfl | (show entersB _ _ = true; kernel_rfl) | exact DW.same _ rfl | exact DW.ref _ _ _ rfl | exact DW.arr _ _ _ rfl | refine DW.int ?_ | refine dvb ?_ | refine dvi ?_ | exact OW.cells rfl rfl (DWl.same rfl) | skip
  all_goals repeat' (first | exact OW.cells rfl rfl (DWl.same rfl) | refine OW.cells rfl rfl ?_ | exact DW.nilArr _ rfl | refine DW.clol ?_ ?_ | refine DWl.cons ?_ ?_ | exact DWl.nil | exact DW.same _ rfl | exact DW.ref _ _ _ rfl | exact DW.arr _ _ _ rfl | refine DW.int ?_)
  all_goals try (simp_all; done)
  all_goals try (simp at *; omega)
  · rename_i i hi e0
    exact cell_no (lt_int e0) h
  · rename_i i hi e0 e1 k hk
    exact all_next hi.2 (byte_f e1) k hk h
  · rename_i i hi e0
    exact wsucc (lt_int e0) (by omega)
  · rename_i i hi
    exact cell_end hi.2 (ge_int h)
def rowSt (l : List ByteArray) (i : Nat) : St := ⟨0, tmOf [(0, strs l), (5, int1 i)], .of [] 0⟩
set_option maxRecDepth 20000 in
theorem row51_D (l : List ByteArray) (n : Int) (hl : Sml l) : DPure Tryz.prog 51 [strs l, int1 n] (bl (rowB l n)) := by
  have hc := fun s (h : s ∈ l) => cell86_D s (hl.2 s h)
  refine DFun.body Tryz.func51 rfl (by kernel_rfl) ?_
  repeat' (first | with_reducible rfl | ((conv => whnf); first | refine And.intro ?_ ?_ | (intro h; first | with_reducible exact tf_no h | with_reducible exact ft_no h | exact Bool.noConfusion h | with_reducible exact h | (have ht : true = true := h; clear ht h) | skip) | ((with_reducible refine DWl.mark ?_); repeat' (first | refine DWl.cons ?_ ?_ | exact DWl.nil | exact DW.same _ rfl | exact DW.ref _ _ _ rfl | exact DW.arr _ _ _ rfl | exact DW.sub _ _ _ _ rfl | exact DW.mo _ _ rfl | exact DW.nilLst _ | refine DW.aggl ?_ | refine DW.tupl ?_ | refine DW.clol ?_ ?_ | refine DW.int ?_ | refine DW.bool ?_ | refine DW.str ?_)) | ((with_reducible refine SCall.mark ?_); first | refine SCall.data (hc _ ?_) rfl rfl ?_ | refine SCall.scal (hc _ ?_) rfl rfl ?_) | ((with_reducible refine PCall.mark ?_); first | refine PCall.mk (hc _ ?_) rfl rfl ?_) | ((with_reducible refine GCall.mark ?_); first | refine GCall.data (fun _ => hc _ ?_) rfl rfl ?_ | refine GCall.scal (fun _ => hc _ ?_) rfl rfl ?_) | ((with_reducible refine MCall.mark ?_); first | refine MCall.data (fun _ => hc _ ?_) rfl rfl ?_ | refine MCall.plain (PCall.mk (hc _ ?_) rfl rfl ?_)) | ((with_reducible refine Tri.mark ?_); first | refine Tri.loop (rowSt l) (fun i => i ≤ l.length ∧ ∀ k, k < i → k < l.length → cellB (l.getD k ⟨#[]⟩) = true) (fun i => l.length - i) (0) (by kernel_rfl) (Weak.list [] [] ?_ ?_ ?_) ?_ ?_) | ((with_reducible refine Round.mark ?_); first | refine Round.go ((· + 1)) ?_ ?_ (Weak.list [] [] ?_ ?_ ?_)) | ((with_reducible refine ECall.mark ?_); first | refine ECall.only ?_ (fun h => nomatch h) | refine ECall.only ?_ ?_) | ((with_reducible refine Drawn.mark ?_); first | refine Drawn.quiet (by kernel_rfl) ?_) | refine dloadE_map ((⟨#[]⟩ : ByteArray)) ?_ ?_ | refine dcell_ok rfl ?_ | refine AppC.new ?_))
  all_goals first | (with_reducible refine enters_mark ?_; kernel_rfl) | (with_reducible refine boolT_mark ?_; kernel_rfl) | rfl | trivial | assumption | exact Nat.le_of_ble_eq_true rfl | (show entersB _ _ = true; kernel_rfl) | exact DW.same _ rfl | exact DW.ref _ _ _ rfl | exact DW.arr _ _ _ rfl | refine DW.int ?_ | refine dvb ?_ | refine dvi ?_ | exact OW.cells rfl rfl (DWl.same rfl) | skip
  all_goals repeat' (first | exact OW.cells rfl rfl (DWl.same rfl) | refine OW.cells rfl rfl ?_ | exact DW.nilArr _ rfl | refine DW.clol ?_ ?_ | refine DWl.cons ?_ ?_ | exact DWl.nil | exact DW.same _ rfl | exact DW.ref _ _ _ rfl | exact DW.arr _ _ _ rfl | refine DW.int ?_)
  all_goals try (simp_all; done)
  all_goals try (simp at *; omega)
  · exact row_bad h
  · rename_i i hi
    exact mem_at (lt_of_test h)
  · rename_i i hi e0
    exact row_no (lt_of_test e0) h
  · rename_i i hi e0 e1 k hk
    rw [Int.toNat_natCast] at e1
    exact all_next hi.2 (by simpa using e1) k hk h
  · rename_i i hi e0
    exact wsucc (lt_of_test e0) (by have := hl.1; omega)
  · rename_i e9 i hi
    exact row_end hi.2 (ge_of_test h) (by assumption)
end Go.Proofs.YtlchjjchgebfiaaGreatDoor
namespace Go.Proofs.YtlchjjchgebfiaaGreatDoor
open Go.RowKit Go.Dl
attribute [local irreducible] Tri SCall TSem ECall Drawn DFun QSem PSem PCall GCall MCall Round Weak dloadE OW DWl Tells IntKind.wrap Retold ESem
theorem fit_bad {t : Tb} (h : badH t = true) : false = fitB t := by rw [fitB, h]; rfl
theorem fit_no {t : Tb} {i : Nat} (hi : i < t.rows.length) (h : (!rowB (t.rows.getD (i : Int).toNat []) (t.head.map strD).length) = true) : false = fitB t := by
  rw [Int.toNat_natCast] at h
  rw [fitB, all_no hi (by simpa using h), Bool.and_false]
theorem fit_end {t : Tb} {i : Nat} (hb : badH t = false) (h : ∀ k, k < i → k < t.rows.length → rowB (t.rows.getD k []) (t.head.map strD).length = true) (hi : t.rows.length ≤ i) : true = fitB t := by
  rw [fitB, hb, all_end h hi]; rfl
theorem index_nz (l : List UInt8) : decide (Lib.indexByte l 0 < 0) = l.all nz := by
  induction l with
  | nil => rfl
  | cons b l ih =>
    have hg := Lib.indexByte_ge l 0
    rw [Lib.indexByte, List.all_cons]
    cases e : b == 0 with
    | true => simp [nz, e]
    | false =>
      rw [show nz b = true by simp [nz, e], Bool.true_and, ← ih]
      rw [if_neg (by simp)]
      split
      · rename_i h1
        have h1 := beq_iff_eq.1 h1
        rw [h1]
      · rename_i h1
        have h1 : Lib.indexByte l 0 ≠ -1 := fun h2 => h1 (by rw [h2]; rfl)
        rw [Bool.eq_iff_iff, decide_eq_true_eq, decide_eq_true_eq]; omega
def fitSt (t : Tb) (i : Nat) : St := ⟨0, tmOf [(1, .ref 0 0), (3, int1 (t.head.map strD).length), (4, int1 i)], .of [(0, ⟨25, 2, tbD t⟩)] 1⟩
attribute [local irreducible] rowB cellB fitB
set_option maxRecDepth 20000 in
theorem fit20_D (t : Tb) (hs : SmlT t) : DPure Tryz.prog 20 [tab t] (bl (fitB t)) := by
  have hc := fun l (h : l ∈ t.rows) => row51_D l (t.head.map strD).length (hs.2.2 l h)
  have hh := row51_D t.head (t.head.map strD).length hs.1
  refine DFun.body Tryz.func20 rfl (by kernel_rfl) ?_
  repeat' (first | with_reducible rfl | ((conv => whnf); first | refine And.intro ?_ ?_ | (intro h; first | with_reducible exact tf_no h | with_reducible exact ft_no h | exact Bool.noConfusion h | with_reducible exact h | (have ht : true = true := h; clear ht h) | skip) | ((with_reducible refine DWl.mark ?_); repeat' (first | refine DWl.cons ?_ ?_ | exact DWl.nil | exact DW.same _ rfl | exact DW.ref _ _ _ rfl | exact DW.arr _ _ _ rfl | exact DW.sub _ _ _ _ rfl | exact DW.mo _ _ rfl | exact DW.nilLst _ | refine DW.aggl ?_ | refine DW.tupl ?_ | refine DW.clol ?_ ?_ | refine DW.int ?_ | refine DW.bool ?_ | refine DW.str ?_)) | ((with_reducible refine SCall.mark ?_); first | refine SCall.data (hh) rfl rfl ?_ | refine SCall.scal (hh) rfl rfl ?_ | refine SCall.data (hc _ ?_) rfl rfl ?_ | refine SCall.scal (hc _ ?_) rfl rfl ?_) | ((with_reducible refine PCall.mark ?_); first | refine PCall.mk (hh) rfl rfl ?_ | refine PCall.mk (hc _ ?_) rfl rfl ?_) | ((with_reducible refine GCall.mark ?_); first | refine GCall.data (fun _ => hh) rfl rfl ?_ | refine GCall.scal (fun _ => hh) rfl rfl ?_ | refine GCall.data (fun _ => hc _ ?_) rfl rfl ?_ | refine GCall.scal (fun _ => hc _ ?_) rfl rfl ?_) | ((with_reducible refine MCall.mark ?_); first | refine MCall.data (fun _ => hh) rfl rfl ?_ | refine MCall.plain (PCall.mk (hh) rfl rfl ?_) | refine MCall.data (fun _ => hc _ ?_) rfl rfl ?_ | refine MCall.plain (PCall.mk (hc _ ?_) rfl rfl ?_)) | ((with_reducible refine Tri.mark ?_); first | refine Tri.loop (fitSt t) (fun i => i ≤ t.rows.length ∧ ∀ k, k < i → k < t.rows.length → rowB (t.rows.getD k []) (t.head.map strD).length = true) (fun i => t.rows.length - i) (0) (by kernel_rfl) (Weak.list [(0, some 0)] [] ?_ ?_ ?_) ?_ ?_) | ((with_reducible refine Round.mark ?_); first | refine Round.go ((· + 1)) ?_ ?_ (Weak.list [(0, some 0)] [] ?_ ?_ ?_)) | ((with_reducible refine ECall.mark ?_); first | refine ECall.only ?_ (fun h => nomatch h) | refine ECall.only ?_ ?_) | ((with_reducible refine Drawn.mark ?_); first | refine Drawn.quiet (by kernel_rfl) ?_) | refine dloadE_map (([] : List ByteArray)) ?_ ?_ | refine dcell_ok rfl ?_ | refine AppC.new ?_))
  all_goals first | (with_reducible refine enters_mark ?_; kernel_rfl) | (with_reducible refine boolT_mark ?_; kernel_rfl) | rfl | trivial | assumption | exact Nat.le_of_ble_eq_true rfl | (show entersB _ _ = true; kernel_rfl) | exact DW.same _ rfl | exact DW.ref _ _ _ rfl | exact DW.arr _ _ _ rfl | refine DW.int ?_ | refine dvb ?_ | refine dvi ?_ | exact OW.cells rfl rfl (DWl.same rfl) | skip
  all_goals repeat' (first | exact OW.cells rfl rfl (DWl.same rfl) | refine OW.cells rfl rfl ?_ | exact DW.nilArr _ rfl | refine DW.clol ?_ ?_ | refine DWl.cons ?_ ?_ | exact DWl.nil | exact DW.same _ rfl | exact DW.ref _ _ _ rfl | exact DW.arr _ _ _ rfl | refine DW.int ?_)
  all_goals try (simp_all; done)
  all_goals try (simp at *; omega)
  · exact fit_bad h
  · rename_i i hi e0
    exact fit_no (lt_of_test e0) h
  · rename_i i hi e0 e1 k hk
    rw [Int.toNat_natCast] at e1
    exact all_next (p := fun r => rowB r (t.head.map strD).length) hi.2 (by rw [← Bool.not_eq_false', e1]) k hk h
  · rename_i i hi e0
    exact wsucc (lt_of_test e0) (by have := hs.2.1; omega)
  · rename_i e9 i hi
    exact fit_end (by assumption) hi.2 (ge_of_test h)
set_option maxRecDepth 20000 in
theorem cell84_D (s : ByteArray) (hs : s.size ≤ 140737488355328) : DPure Tryz.prog 84 [strV s] (bl (cellB s)) := by
  refine DFun.body Tryz.func84 rfl (by kernel_rfl) ?_
  repeat' (first | with_reducible rfl | ((conv => whnf); first | refine And.intro ?_ ?_ | (intro h; first | with_reducible exact tf_no h | with_reducible exact ft_no h | exact Bool.noConfusion h | with_reducible exact h | (have ht : true = true := h; clear ht h) | skip) | ((with_reducible refine SCall.mark ?_); first | refine SCall.data (byte108_D _ _) rfl rfl ?_ | refine SCall.scal (byte108_D _ _) rfl rfl ?_) | ((with_reducible refine PCall.mark ?_); first | refine PCall.mk (byte108_D _ _) rfl rfl ?_) | ((with_reducible refine GCall.mark ?_); first | refine GCall.data (fun _ => byte108_D _ _) rfl rfl ?_ | refine GCall.scal (fun _ => byte108_D _ _) rfl rfl ?_) | ((with_reducible refine MCall.mark ?_); first | refine MCall.data (fun _ => byte108_D _ _) rfl rfl ?_ | refine MCall.plain (PCall.mk (byte108_D _ _) rfl rfl ?_)) | ((with_reducible refine ECall.mark ?_); first | refine ECall.only ?_ (fun h => nomatch h) | refine ECall.only ?_ ?_) | ((with_reducible refine Drawn.mark ?_); first | refine Drawn.quiet (by kernel_rfl) ?_) | refine dcell_ok rfl ?_ | refine AppC.new ?_))
  all_goals first | (with_reducible refine enters_mark ?_; kernel_rfl) | (with_reducible refine boolT_mark ?_; kernel_rfl) | rfl | trivial | assumption | exact Nat.le_of_ble_eq_true rfl | (show entersB _ _ = true; kernel_rfl) | exact DW.same _ rfl | exact DW.ref _ _ _ rfl | exact DW.arr _ _ _ rfl | refine DW.int ?_ | refine dvb ?_ | refine dvi ?_ | exact OW.cells rfl rfl (DWl.same rfl) | skip
  all_goals repeat' (first | exact OW.cells rfl rfl (DWl.same rfl) | refine OW.cells rfl rfl ?_ | exact DW.nilArr _ rfl | refine DW.clol ?_ ?_ | refine DWl.cons ?_ ?_ | exact DWl.nil | exact DW.same _ rfl | exact DW.ref _ _ _ rfl | exact DW.arr _ _ _ rfl | refine DW.int ?_)
  all_goals try (simp_all; done)
  all_goals try (simp at *; omega)
  rw [show (Int.toNat 0).toUInt8 = 0 from rfl, index_nz, cellB, Bool.and_comm]
  have e : decide ((s.size : Int) ≤ 1024) = decide (s.size ≤ 1024) := by rw [Bool.eq_iff_iff, decide_eq_true_eq, decide_eq_true_eq]; omega
  rw [e]
  cases decide (s.size ≤ 1024) <;> rfl
def cells (l : List ByteArray) : Bool := l.all cellB
end Go.Proofs.YtlchjjchgebfiaaGreatDoor
namespace Go.Proofs.YtlchjjchgebfiaaGreatDoor
open Go.RowKit Go.Dl
attribute [local irreducible] Tri SCall TSem ECall Drawn DFun QSem PSem PCall GCall MCall Round Weak dloadE OW DWl Tells IntKind.wrap Retold ESem
attribute [local irreducible] cellB rowB fitB
set_option maxRecDepth 20000 in
theorem cell83_D (s : ByteArray) (hs : s.size ≤ 140737488355328) : DPure Tryz.prog 83 [strV s] (bl (!cellB s)) := by
  refine DFun.body Tryz.func83 rfl (by kernel_rfl) ?_
  repeat' (first | with_reducible rfl | ((conv => whnf); first | refine And.intro ?_ ?_ | (intro h; first | with_reducible exact tf_no h | with_reducible exact ft_no h | exact Bool.noConfusion h | with_reducible exact h | (have ht : true = true := h; clear ht h) | skip) | ((with_reducible refine SCall.mark ?_); first | refine SCall.data (cell84_D s hs) rfl rfl ?_ | refine SCall.scal (cell84_D s hs) rfl rfl ?_) | ((with_reducible refine PCall.mark ?_); first | refine PCall.mk (cell84_D s hs) rfl rfl ?_) | ((with_reducible refine GCall.mark ?_); first | refine GCall.data (fun _ => cell84_D s hs) rfl rfl ?_ | refine GCall.scal (fun _ => cell84_D s hs) rfl rfl ?_) | ((with_reducible refine MCall.mark ?_); first | refine MCall.data (fun _ => cell84_D s hs) rfl rfl ?_ | refine MCall.plain (PCall.mk (cell84_D s hs) rfl rfl ?_)) | ((with_reducible refine ECall.mark ?_); first | refine ECall.only ?_ (fun h => nomatch h) | refine ECall.only ?_ ?_) | ((with_reducible refine Drawn.mark ?_); first | refine Drawn.quiet (by kernel_rfl) ?_) | refine dcell_ok rfl ?_ | refine AppC.new ?_))
  all_goals first | (with_reducible refine enters_mark ?_; kernel_rfl) | (with_reducible refine boolT_mark ?_; kernel_rfl) | rfl | trivial | assumption | exact Nat.le_of_ble_eq_true rfl | (show entersB _ _ = true; kernel_rfl) | exact DW.same _ rfl | exact DW.ref _ _ _ rfl | exact DW.arr _ _ _ rfl | refine DW.int ?_ | refine dvb ?_ | refine dvi ?_ | exact OW.cells rfl rfl (DWl.same rfl) | skip
  all_goals repeat' (first | exact OW.cells rfl rfl (DWl.same rfl) | refine OW.cells rfl rfl ?_ | exact DW.nilArr _ rfl | refine DW.clol ?_ ?_ | refine DWl.cons ?_ ?_ | exact DWl.nil | exact DW.same _ rfl | exact DW.ref _ _ _ rfl | exact DW.arr _ _ _ rfl | refine DW.int ?_)
  all_goals try (simp_all; done)
  all_goals try (simp at *; omega)
  done
def findI {α : Type} (p : α → Bool) (l : List α) : Int := if l.any p then (l.findIdx p : Nat) else -1
theorem getD_lt {α : Type} {l : List α} {d : α} {k : Nat} (h : k < l.length) : l.getD k d = l[k] := by rw [List.getD_eq_getElem?_getD, List.getElem?_eq_getElem h]; rfl
theorem find_at {α : Type} {p : α → Bool} {l : List α} {d : α} {i : Nat} (hi : i < l.length) (h0 : ∀ k, k < i → k < l.length → p (l.getD k d) = false) (h1 : p (l.getD (i : Int).toNat d) = true) : (i : Int) = findI p l := by
  rw [Int.toNat_natCast, getD_lt hi] at h1
  have ha : l.any p = true := List.any_eq_true.2 ⟨l[i], List.getElem_mem hi, h1⟩
  have hf : l.findIdx p = i := (List.findIdx_eq hi).2 ⟨h1, fun j hj => by
    have := h0 j hj (by omega)
    rw [getD_lt (by omega)] at this
    simpa using this⟩
  rw [findI, if_pos ha, hf]
theorem none_any {α : Type} {p : α → Bool} {l : List α} {d : α} {i : Nat} (h0 : ∀ k, k < i → k < l.length → p (l.getD k d) = false) (hi : l.length ≤ i) : l.any p = false := by
  rw [List.any_eq_false]
  intro x hx
  obtain ⟨k, hk, rfl⟩ := List.getElem_of_mem hx
  have := h0 k (by omega) hk
  rw [getD_lt hk] at this
  rw [this]; decide
theorem find_none {α : Type} {p : α → Bool} {l : List α} {d : α} {i : Nat} (h0 : ∀ k, k < i → k < l.length → p (l.getD k d) = false) (hi : l.length ≤ i) : -1 = findI p l := by
  rw [findI, none_any h0 hi]; rfl
theorem find_nn {α : Type} (p : α → Bool) (l : List α) : decide (0 ≤ findI p l) = l.any p := by
  rw [findI]
  cases l.any p with
  | true => rw [if_pos rfl]; exact decide_eq_true (by omega)
  | false => rfl
theorem none_next {α : Type} {l : List α} {p : α → Bool} {d : α} {i : Nat} (h : ∀ k, k < i → k < l.length → p (l.getD k d) = false) (h1 : p (l.getD (i : Int).toNat d) = false) : ∀ k, k < i + 1 → k < l.length → p (l.getD k d) = false := fun k hk hl => by
  rw [Int.toNat_natCast] at h1
  rcases Nat.lt_succ_iff_lt_or_eq.1 hk with h2 | h2
  · exact h k h2 hl
  · subst h2; exact h1
def badC (s : ByteArray) : Bool := !cellB s
def ixSt (l : List ByteArray) (i : Nat) : St := ⟨0, tmOf [(0, strs l), (1, .clo (.func 83) [] []), (7, int1 (l.map strD).length), (8, int1 i)], .of [] 0⟩
set_option maxRecDepth 20000 in
theorem index107_D (l : List ByteArray) (hl : Sml l) : DPure Tryz.prog 107 [strs l, .clo (.func 83) [] []] (int1 (findI badC l)) := by
  have hc := fun s (h : s ∈ l) => cell83_D s (hl.2 s h)
  refine DFun.body Tryz.func107 rfl (by kernel_rfl) ?_
  repeat' (first | with_reducible rfl | ((conv => whnf); first | refine And.intro ?_ ?_ | (intro h; first | with_reducible exact tf_no h | with_reducible exact ft_no h | exact Bool.noConfusion h | with_reducible exact h | (have ht : true = true := h; clear ht h) | skip) | ((with_reducible refine DWl.mark ?_); repeat' (first | refine DWl.cons ?_ ?_ | exact DWl.nil | exact DW.same _ rfl | exact DW.ref _ _ _ rfl | exact DW.arr _ _ _ rfl | exact DW.sub _ _ _ _ rfl | exact DW.mo _ _ rfl | exact DW.nilLst _ | refine DW.aggl ?_ | refine DW.tupl ?_ | refine DW.clol ?_ ?_ | refine DW.int ?_ | refine DW.bool ?_ | refine DW.str ?_)) | ((with_reducible refine SCall.mark ?_); first | refine SCall.data (hc _ ?_) rfl rfl ?_ | refine SCall.scal (hc _ ?_) rfl rfl ?_) | ((with_reducible refine PCall.mark ?_); first | refine PCall.mk (hc _ ?_) rfl rfl ?_) | ((with_reducible refine GCall.mark ?_); first | refine GCall.data (fun _ => hc _ ?_) rfl rfl ?_ | refine GCall.scal (fun _ => hc _ ?_) rfl rfl ?_) | ((with_reducible refine MCall.mark ?_); first | refine MCall.data (fun _ => hc _ ?_) rfl rfl ?_ | refine MCall.plain (PCall.mk (hc _ ?_) rfl rfl ?_)) | ((with_reducible refine Tri.mark ?_); first | refine Tri.loop (ixSt l) (fun i => i ≤ l.length ∧ ∀ k, k < i → k < l.length → badC (l.getD k ⟨#[]⟩) = false) (fun i => l.length - i) (0) (by kernel_rfl) (Weak.list [] [] ?_ ?_ ?_) ?_ ?_) | ((with_reducible refine Round.mark ?_); first | refine Round.go ((· + 1)) ?_ ?_ (Weak.list [] [] ?_ ?_ ?_)) | ((with_reducible refine ECall.mark ?_); first | refine ECall.only ?_ (fun h => nomatch h) | refine ECall.only ?_ ?_) | ((with_reducible refine Drawn.mark ?_); first | refine Drawn.quiet (by kernel_rfl) ?_) | refine dloadE_map ((⟨#[]⟩ : ByteArray)) ?_ ?_ | refine dcell_ok rfl ?_ | refine AppC.new ?_))
  all_goals first | (with_reducible refine enters_mark ?_; kernel_rfl) | (with_reducible refine boolT_mark ?_; kernel_rfl) | rfl | trivial | assumption | exact Nat.le_of_ble_eq_true rfl | (show entersB _ _ = true; kernel_rfl) | exact DW.same _ rfl | exact DW.ref _ _ _ rfl | exact DW.arr _ _ _ rfl | refine DW.int ?_ | refine dvb ?_ | refine dvi ?_ | exact OW.cells rfl rfl (DWl.same rfl) | skip
  all_goals repeat' (first | exact OW.cells rfl rfl (DWl.same rfl) | refine OW.cells rfl rfl ?_ | exact DW.nilArr _ rfl | refine DW.clol ?_ ?_ | refine DWl.cons ?_ ?_ | exact DWl.nil | exact DW.same _ rfl | exact DW.ref _ _ _ rfl | exact DW.arr _ _ _ rfl | refine DW.int ?_)
  all_goals try (simp_all; done)
  all_goals try (simp at *; omega)
  · rename_i i hi e0
    exact find_at (lt_of_test e0) hi.2 h
  · rename_i i hi e0 e1 k hk
    exact none_next (p := badC) hi.2 e1 k hk h
  · rename_i i hi e0
    exact wsucc (lt_of_test e0) (by have := hl.1; omega)
  · rename_i i hi
    exact find_none hi.2 (ge_of_test h)
set_option maxRecDepth 20000 in
theorem some82_D (l : List ByteArray) (hl : Sml l) : DPure Tryz.prog 82 [strs l, .clo (.func 83) [] []] (bl (l.any badC)) := by
  refine DFun.body Tryz.func82 rfl (by kernel_rfl) ?_
  repeat' (first | with_reducible rfl | ((conv => whnf); first | refine And.intro ?_ ?_ | (intro h; first | with_reducible exact tf_no h | with_reducible exact ft_no h | exact Bool.noConfusion h | with_reducible exact h | (have ht : true = true := h; clear ht h) | skip) | ((with_reducible refine SCall.mark ?_); first | refine SCall.data (index107_D l hl) rfl rfl ?_ | refine SCall.scal (index107_D l hl) rfl rfl ?_) | ((with_reducible refine PCall.mark ?_); first | refine PCall.mk (index107_D l hl) rfl rfl ?_) | ((with_reducible refine GCall.mark ?_); first | refine GCall.data (fun _ => index107_D l hl) rfl rfl ?_ | refine GCall.scal (fun _ => index107_D l hl) rfl rfl ?_) | ((with_reducible refine MCall.mark ?_); first | refine MCall.data (fun _ => index107_D l hl) rfl rfl ?_ | refine MCall.plain (PCall.mk (index107_D l hl) rfl rfl ?_)) | ((with_reducible refine ECall.mark ?_); first | refine ECall.only ?_ (fun h => nomatch h) | refine ECall.only ?_ ?_) | ((with_reducible refine Drawn.mark ?_); first | refine Drawn.quiet (by kernel_rfl) ?_) | refine dcell_ok rfl ?_ | refine AppC.new ?_))
  all_goals first | (with_reducible refine enters_mark ?_; kernel_rfl) | (with_reducible refine boolT_mark ?_; kernel_rfl) | rfl | trivial | assumption | exact Nat.le_of_ble_eq_true rfl | (show entersB _ _ = true; kernel_rfl) | exact DW.same _ rfl | exact DW.ref _ _ _ rfl | exact DW.arr _ _ _ rfl | refine DW.int ?_ | refine dvb ?_ | refine dvi ?_ | exact OW.cells rfl rfl (DWl.same rfl) | skip
  all_goals repeat' (first | exact OW.cells rfl rfl (DWl.same rfl) | refine OW.cells rfl rfl ?_ | exact DW.nilArr _ rfl | refine DW.clol ?_ ?_ | refine DWl.cons ?_ ?_ | exact DWl.nil | exact DW.same _ rfl | exact DW.ref _ _ _ rfl | exact DW.arr _ _ _ rfl | refine DW.int ?_)
  all_goals try (simp_all; done)
  all_goals try (simp at *; omega)
  exact find_nn _ _
theorem any_bad (l : List ByteArray) : (!l.any badC) = l.all cellB := by
  induction l with
  | nil => rfl
  | cons a l ih => rw [List.any_cons, List.all_cons, Bool.not_or, ih, badC, Bool.not_not]
set_option maxRecDepth 20000 in
theorem row49_D (l : List ByteArray) (n : Int) (hl : Sml l) : DPure Tryz.prog 49 [strs l, int1 n] (bl (rowB l n)) := by
  refine DFun.body Tryz.func49 rfl (by kernel_rfl) ?_
  repeat' (first | with_reducible rfl | ((conv => whnf); first | refine And.intro ?_ ?_ | (intro h; first | with_reducible exact tf_no h | with_reducible exact ft_no h | exact Bool.noConfusion h | with_reducible exact h | (have ht : true = true := h; clear ht h) | skip) | ((with_reducible refine SCall.mark ?_); first | refine SCall.data (some82_D l hl) rfl rfl ?_ | refine SCall.scal (some82_D l hl) rfl rfl ?_) | ((with_reducible refine PCall.mark ?_); first | refine PCall.mk (some82_D l hl) rfl rfl ?_) | ((with_reducible refine GCall.mark ?_); first | refine GCall.data (fun _ => some82_D l hl) rfl rfl ?_ | refine GCall.scal (fun _ => some82_D l hl) rfl rfl ?_) | ((with_reducible refine MCall.mark ?_); first | refine MCall.data (fun _ => some82_D l hl) rfl rfl ?_ | refine MCall.plain (PCall.mk (some82_D l hl) rfl rfl ?_)) | ((with_reducible refine ECall.mark ?_); first | refine ECall.only ?_ (fun h => nomatch h) | refine ECall.only ?_ ?_) | ((with_reducible refine Drawn.mark ?_); first | refine Drawn.quiet (by kernel_rfl) ?_) | refine dcell_ok rfl ?_ | refine AppC.new ?_))
  all_goals first | (with_reducible refine enters_mark ?_; kernel_rfl) | (with_reducible refine boolT_mark ?_; kernel_rfl) | rfl | trivial | assumption | exact Nat.le_of_ble_eq_true rfl | (show entersB _ _ = true; kernel_rfl) | exact DW.same _ rfl | exact DW.ref _ _ _ rfl | exact DW.arr _ _ _ rfl | refine DW.int ?_ | refine dvb ?_ | refine dvi ?_ | exact OW.cells rfl rfl (DWl.same rfl) | skip
  all_goals repeat' (first | exact OW.cells rfl rfl (DWl.same rfl) | refine OW.cells rfl rfl ?_ | exact DW.nilArr _ rfl | refine DW.clol ?_ ?_ | refine DWl.cons ?_ ?_ | exact DWl.nil | exact DW.same _ rfl | exact DW.ref _ _ _ rfl | exact DW.arr _ _ _ rfl | refine DW.int ?_)
  all_goals try (simp_all; done)
  all_goals try (simp at *; omega)
  rw [any_bad, rowB, List.length_map]
  cases e : ((l.length : Int) == n) with
  | true => rw [decide_eq_true (beq_iff_eq.1 e)]; rfl
  | false => rw [decide_eq_false (fun h => by rw [beq_iff_eq.2 h] at e; cases e)]; rfl
attribute [local irreducible] badC
end Go.Proofs.YtlchjjchgebfiaaGreatDoor
namespace Go.Proofs.YtlchjjchgebfiaaGreatDoor
open Go Go.RowKit Go.Dl
theorem cells65 : Tryz.prog.cellsOf 65 = 2 := by kernel_rfl
theorem depthS : ∃ d, Tryz.prog.depth = d + 1 := ⟨Tryz.prog.depth - 1, by kernel_rfl⟩
theorem lies65 (c : Nat) (hc : 1 ≤ c) : liesAt Tryz.prog Tryz.prog.depth 65 (c * 2 / Tryz.prog.cellsOf 65) 0 65 1 = true := by
  obtain ⟨d, hd⟩ := depthS
  have e1 : c * 2 / Tryz.prog.cellsOf 65 = c := by rw [cells65]; omega
  have e2 : sameLayout Tryz.prog Tryz.prog.depth 65 65 = true := by rw [hd]; simp [sameLayout]
  rw [e1, hd, liesAt, hd, rowAt, ← hd, e2, cells65]
  simp [hc]
set_option maxRecDepth 100000 in
set_option maxHeartbeats 1000000 in
theorem cc_fresh (b c : Nat) (w : World) (h0 : w.cell? ⟨b, 0, none⟩ = some (.pointer none)) (hc : 1 ≤ c) (hsh : w.shape? b = some (65, c * 2)) (hfz : w.frozen? ⟨b, 0, none⟩ = false) :
    Calls Tryz.prog 70 #[.pointer (some ⟨b, 0, none⟩)] w fun e w' => e = .returned (.tuple #[]) ∧ w' = w.setCell ⟨b, 0, none⟩ (.pointer (some ⟨b, 0, none⟩)) := by
  obtain ⟨j, hj, hjs⟩ := Option.map_eq_some_iff.1 extraJ.sizeBuilder
  have hj : Tryz.prog.info? 65 = some j := hj
  have mixed := Tryz.laysJoin.mixed
  go_enter Tryz.func70, Tryz.ntmps70
  go_wp2
  rw [Lib.run_to_unsafe w ⟨b, 0, none⟩ Tryz.underlying62 Tryz.underlying137 hj (by rw [hjs]; decide) hsh (by show 0 < c * 2; omega)]
  simp only [Result.andThen]
  rw [Oper.upon_value]
  go_wp2
  rw [run_callFunc_extern Tryz.func101 (by kernel_rfl) (by kernel_rfl) (by kernel_rfl) (e := Extern.AbiNoEscape.same) (by kernel_rfl)]
  rw [Lib.run_noEscape]
  simp only [Result.andThen]
  rw [Oper.upon_value]
  go_wp2
  rw [Lib.run_from_unsafe w ⟨b, 0, none⟩ Tryz.underlying137 Tryz.underlying62 hj hsh (lies65 c hc)]
  simp only [Result.andThen]
  rw [Oper.upon_value]
  go_wp2
  go_end0
  exact ⟨rfl, rfl⟩
theorem SRel.spoil {w0 : World} {F0 : Nat → Prop} {s : Sto} {β : Beta} {w : World} (h : SRel w0 F0 s β w) (j : Nat) (o : DObj) (hob : s.ob j = some o) (b c : Nat) (hb : β j = some (some (b, c)))
    (w' : World) (hbel : BelowD b w w') (hoth : ∀ k, k ≠ b → w'.heap[k]? = w.heap[k]?) :
    SRel w0 F0 ⟨upd s.ob j none, s.nx⟩ β w' ∧ ∀ n, Ext n w0 nX s β w ⟨upd s.ob j none, s.nx⟩ β w' := by
  have hge : w0.heap.size ≤ b := by
    rcases h.obs j o hob with k1 | ⟨b2, c2, cur2, k1, k2, _⟩
    · rw [k1.1] at hb; cases hb
    · rw [k1] at hb; cases hb; exact k2
  have hsome : ∀ i, ((upd s.ob j none) i).isSome = true → (s.ob i).isSome = true ∧ i ≠ j := fun i => by
    by_cases e : i = j
    · subst e; simp
    · rw [upd_ne _ _ _ e]; exact fun h => ⟨h, e⟩
  have hnU : ¬ Un w0 s β b := fun hF => by
    rcases hF with hF | hF
    · omega
    · exact hF.2 j c (by simp [hob]) hb
  have hU : ∀ k, Un w0 s β k → Un w0 ⟨upd s.ob j none, s.nx⟩ β k := fun k hF => by
    rcases hF with hF | hF
    · exact .inl hF
    · exact .inr ⟨hF.1, fun i c' hi => hF.2 i c' (hsome i hi).1⟩
  have hext : ∀ n, Ext n w0 nX s β w ⟨upd s.ob j none, s.nx⟩ β w' := fun n => ⟨fun _ _ _ hp => hp, hbel.size, fun k hk _ hF => ⟨hU k hF, hoth k (fun e => hnU (e ▸ hF))⟩⟩
  refine ⟨⟨h.below.trans (hbel.mono hge), fun i oi hi => ?_, fun i k b2 c1 c2 hi hk => h.inj i k b2 c1 c2 (hsome i hi).1 (hsome k hk).1, fun i hi => ?_, fun k hk => h.up k (Nat.le_trans hbel.size hk), fun i b2 c2 hi hb2 => h.own i b2 c2 (hsome i hi).1 hb2, h.gl⟩, hext⟩
  · have hi2 : upd s.ob j none i = some oi := hi
    obtain ⟨hi1, hij⟩ := hsome i (by rw [hi2]; rfl)
    have hi' : s.ob i = some oi := by simpa [upd_ne _ _ _ hij] using hi
    rcases h.obs i oi hi' with k1 | ⟨b2, c2, cur2, k1, k2, k3, k4, k5, k6, k7⟩
    · exact .inl k1
    · refine .inr ⟨b2, c2, cur2, k1, k2, ?_, k4, k5, k6, fun m d hm => ?_⟩
      · rw [hoth b2 (fun e => hij (h.inj i j b2 c2 c (by simp [hi']) (by simp [hob]) k1 (by rw [hb, e])))]
        exact k3
      · obtain ⟨x, hx, hr⟩ := k7 m d hm
        exact ⟨x, hx, RV.ext h (Nat.le_refl _) (hext _) hr⟩
  · have := h.nx i hi
    refine ⟨this.1, ?_⟩
    by_cases e : i = j
    · subst e; simp
    · rw [show (Sto.mk (upd s.ob j none) s.nx).ob i = s.ob i from upd_ne _ _ _ e]; exact this.2
def aB (id : Nat) (f : Bool) : DV := bif f then .v (.pointer none) else .ref id 0
set_option maxRecDepth 100000 in
theorem cc70_S {id : Nat} {f : Bool} {b : DV} {s : Sto} {K : DV → Sto → Prop} (hob : s.ob id = some ⟨65, 2, [aB id f, b]⟩) (hK : K (.tup []) ⟨upd s.ob id (some ⟨65, 2, [.ref id 0, b]⟩), s.nx⟩) : SCall Tryz.prog 70 [.ref id 0] s K := fun w0 F0 β w vals hs hx => by
  match vals, hx.1 with
  | [x0], _ =>
  obtain ⟨bk, c, hb, rfl⟩ := rv_ref (hx.2 0 _ _ rfl rfl)
  rcases hs.obs id _ hob with g | ⟨b', c', cur, g1, g2, g3, g4, g5, g6, g7⟩
  · rw [g.1] at hb; cases hb
  rw [g1] at hb
  simp only [Option.some.injEq, Prod.mk.injEq] at hb
  obtain ⟨rfl, rfl⟩ := hb
  obtain ⟨x, hx0, hxr⟩ := g7 0 _ rfl
  have g6 : 2 ≤ cur.size := g6
  have g4 : cur.size = c' * 2 := g4
  replace g3 : w.heap[b']? = some (.cells cur 65 (0, 0)) := g3
  have hcell : w.cell? ⟨b', 0, none⟩ = some x := by rw [Lib.cell_of_heap g3]; exact hx0
  obtain ⟨k0, k1, k2, k3⟩ := hs.store1 id _ hob rfl b' c' g1 0 (by simp) (.ref id 0) (.pointer (some ⟨b', 0, none⟩)) (.ref id 0 b' c' g1)
  cases f with
  | true =>
    have hx1 : x = .pointer none := rv_v hxr
    subst hx1
    refine (cc_fresh b' c' w hcell (by omega) (by simp [World.shape?, g3, g4]) (by simp [World.frozen?, g3])).mono fun e w' ⟨he, hw⟩ => ?_
    subst hw
    exact ⟨_, .tup [], _, β, he, hK, k2, k3 _, Nat.le_refl _, .tup [] [] rfl (fun i d x h => by simp at h)⟩
  | false =>
    obtain ⟨b2, c2, h2, rfl⟩ := rv_ref hxr
    rw [g1] at h2
    simp only [Option.some.injEq, Prod.mk.injEq] at h2
    obtain ⟨rfl, rfl⟩ := h2
    refine (Any.Builder_copyCheck_used { Tryz.laysJoin with } extraJ.toX72 b' w hcell).mono fun e w' ⟨he, hw⟩ => ?_
    subst hw
    have hsame : (⟨upd s.ob id (some ⟨65, 2, [.ref id 0, b]⟩), s.nx⟩ : Sto) = s := by
      have h2 : upd s.ob id (some ⟨65, 2, [.ref id 0, b]⟩) = s.ob := by
        funext k
        by_cases e : k = id
        · subst e; rw [upd_same, hob]; rfl
        · rw [upd_ne _ _ _ e]
      rw [h2]
    rw [hsame] at hK
    exact ⟨_, .tup [], s, β, he, hK, hs, .refl, Nat.le_refl _, .tup [] [] rfl (fun i d x h => by simp at h)⟩
end Go.Proofs.YtlchjjchgebfiaaGreatDoor
namespace Go.Proofs.YtlchjjchgebfiaaGreatDoor
open Go Go.RowKit Go.Dl
set_option maxHeartbeats 2000000 in
set_option maxRecDepth 100000 in
theorem str_kit (b g cap : Nat) (cur : Array Value) (l : List UInt8) (w : World) (hc1 : w.cell? ⟨b, 1, none⟩ = some (.slice (some ⟨g, 0, none⟩) l.length cap)) (hg : w.heap[g]? = some (.cells cur 5 (0, 0))) (h0 : l ≠ []) (hcap : l.length ≤ cap) (hcm : cap ≤ maxLen) (hcs : l.length ≤ cur.size)
    (hcells : ∀ (j : Nat) x, l[j]? = some x → w.cell? ⟨g, j, none⟩ = some (.int .u8 x.toNat)) :
    Calls Tryz.prog 39 #[.pointer (some ⟨b, 0, none⟩)] w fun e w' => e = .returned (.string ⟨l.toArray⟩) ∧ w' = w.drew.freeze ⟨g, 0, none⟩ l.length := by
  have hl0 : l.length ≠ 0 := by simpa using h0
  have c1 : w.drew.cell? ⟨b, 1, none⟩ = some (.slice (some ⟨g, 0, none⟩) l.length cap) := hc1
  have hSD : (Builtin.unsafeSliceData_ #[63] 120 #[.slice (some ⟨g, 0, none⟩) l.length cap]).run Tryz.prog w.drew = .ok (.pointer (some ⟨g, 0, none⟩)) w.drew :=
    Lib.run_unsafeSliceData_row _ _ _ _ _ _ (by omega)
  have hUS : (Builtin.unsafeString_ #[120, 3] 9 #[.pointer (some ⟨g, 0, none⟩), .int .i64 l.length]).run Tryz.prog w.drew = .ok (.string ⟨l.toArray⟩) (w.drew.freeze ⟨g, 0, none⟩ l.length) := by
    refine Lib.run_unsafeString_row w.drew 120 3 9 5 Tryz.underlying120 extraJ.cellsByte g cur.size (by have hg' : w.drew.heap[g]? = some (.cells cur 5 (0, 0)) := hg; simp [World.shape?, hg']) l h0 (by omega) (by unfold maxLen at hcm; omega) ?_
    intro j x hx
    rw [Addr.add_lit, Nat.zero_add]
    exact hcells j x hx
  have mixed := Tryz.laysJoin.mixed
  clear hcells hg hcap hcm hcs h0 hl0
  go_enter Tryz.func39, Tryz.ntmps39
  go_wp2
  go_region_o
  all_goals (go_wp2; go_ret; exact ⟨rfl, rfl⟩)
theorem str39_S {id j n : Nat} {a : DV} {acc : ByteArray} {s : Sto} {K : DV → Sto → Prop} (hob : s.ob id = some ⟨65, 2, [a, .arr j n]⟩) (hoj : s.ob j = some ⟨5, 1, bytesD acc⟩) (hn : n = acc.size) (h0 : 0 < acc.size)
    (hK : K (.v (.string acc)) ⟨upd (upd s.ob j none) id none, s.nx⟩) : SCall Tryz.prog 39 [.ref id 0] s K := fun w0 F0 β w vals hs hx => by
  match vals, hx.1 with
  | [x0], _ =>
  obtain ⟨bk, c, hb, rfl⟩ := rv_ref (hx.2 0 _ _ rfl rfl)
  rcases hs.obs id _ hob with g | ⟨b', c', cur, g1, g2, g3, g4, g5, g6, g7⟩
  · rw [g.1] at hb; cases hb
  rw [g1] at hb
  simp only [Option.some.injEq, Prod.mk.injEq] at hb
  obtain ⟨rfl, rfl⟩ := hb
  obtain ⟨x1, hx1, hr1⟩ := g7 1 _ rfl
  rcases rv_arr hr1 with ⟨g, cg, hg, hlc, rfl⟩ | ⟨_, hz, _⟩
  case inr => omega
  rcases hs.obs j _ hoj with q | ⟨bg, c2, cur2, q1, q2, q3, q4, q5, q6, q7⟩
  · rw [q.1] at hg; cases hg
  rw [q1] at hg
  simp only [Option.some.injEq, Prod.mk.injEq] at hg
  obtain ⟨rfl, rfl⟩ := hg
  have q4 : cur2.size = c2 * 1 := q4
  replace g3 : w.heap[b']? = some (.cells cur 65 (0, 0)) := g3
  replace q3 : w.heap[bg]? = some (.cells cur2 5 (0, 0)) := q3
  have q6 : (bytesD acc).length ≤ cur2.size := q6
  rw [bytesD_len] at q6
  have hsz : acc.data.toList.length = acc.size := sz_len acc
  have hcell1 : w.cell? ⟨b', 1, none⟩ = some (.slice (some ⟨bg, 0, none⟩) acc.data.toList.length c2) := by rw [Lib.cell_of_heap g3, hx1, hn, hsz]
  have hcs : ∀ (k : Nat) x, acc.data.toList[k]? = some x → w.cell? ⟨bg, k, none⟩ = some (.int .u8 x.toNat) := fun k x hk => by
    obtain ⟨y, hy, hr⟩ := q7 k (.v (.int .u8 x.toNat)) (by show (bytesD acc)[k]? = _; simp only [bytesD, Lib.strCells, List.map_map, List.getElem?_map, hk]; rfl)
    rw [Lib.cell_of_heap q3, hy, rv_v hr]
  refine (str_kit b' bg c2 cur2 acc.data.toList w hcell1 q3 (fun e => by rw [e] at hsz; simp at hsz; omega) (by omega) q5 (by omega) hcs).mono fun e w' ⟨he, hw⟩ => ?_
  have hfz : ∀ k, k ≠ bg → w'.heap[k]? = w.heap[k]? := fun k hk => by
    subst hw
    unfold World.freeze
    split
    · rfl
    · simp only [Array.getElem?_modify]
      rw [if_neg (fun e => hk e.symm)]; rfl
  have hbel : BelowD bg w w' := .of (by subst hw; exact Lib.below_freeze (Below.drew (Below.refl bg w)) (p := ⟨bg, 0, none⟩) (Nat.le_refl _) _) (fun e => by cases e)
  obtain ⟨k1, k2⟩ := SRel.spoil hs j _ hoj bg c2 q1 w' hbel hfz
  obtain ⟨d1, d2⟩ := k1.drop id
  exact ⟨_, _, _, β, he, hK, d1, (k2 _).trans (d2 _), Nat.le_refl _, .data (.v _ rfl)⟩
end Go.Proofs.YtlchjjchgebfiaaGreatDoor
namespace Go.Proofs.YtlchjjchgebfiaaGreatDoor
open Go.RowKit Go.Dl
attribute [local irreducible] Tri SCall TSem ECall Drawn DFun QSem PSem PCall GCall MCall Round Weak dloadE OW DWl Tells IntKind.wrap Retold ESem
def charsB : ByteArray := ⟨#[44, 34, 10, 13]⟩
def quoB : ByteArray := ⟨#[34]⟩
def quo2B : ByteArray := ⟨#[34, 34]⟩
def emB : ByteArray := ⟨#[]⟩
def Asc (s : ByteArray) : Prop := ∀ (j : Nat) b, s.data.toList[j]? = some b → b.toNat < 128
theorem any77_D (s : ByteArray) (hs : s.size < 4294967281) (has : Asc s) : DPure Tryz.prog 77 [strV s, strV charsB] (bl (Lib.containsAny s.data.toList charsB.data.toList)) :=
  DPure.kit (args := [.string s, .string charsB]) fun w _ => (Any.strings_ContainsAny_laid Tryz.laysAny (by kernel_rfl) s charsB w hs (by decide) has (fun j b hb => by
    match j, hb with
    | 0, hb => cases hb; decide
    | 1, hb => cases hb; decide
    | 2, hb => cases hb; decide
    | 3, hb => cases hb; decide)).mono fun e w' ⟨he, hw⟩ => ⟨_, he, hw, fun F hF => .data (.v _ rfl)⟩
def dblQ (b : UInt8) : List UInt8 := if b = 34 then [34, 34] else [b]
theorem rep_ne {b : UInt8} (h : b ≠ 34) (l : List UInt8) (k : Nat) : Lib.replaceK [34] [34, 34] k (b :: l) = b :: Lib.replaceK [34] [34, 34] k l := by
  cases k with
  | zero => rfl
  | succ k =>
    have hb : ¬ (b == 34) = true := fun e => h (beq_iff_eq.1 e)
    have hge := Lib.indexByte_ge l 34
    rw [Lib.replaceK, Lib.replaceK, Lib.index_one, Lib.index_one, Lib.indexByte, if_neg hb]
    by_cases h1 : (Lib.indexByte l 34 == -1) = true
    · rw [if_pos h1, if_pos h1]; rfl
    · have h2 : Lib.indexByte l 34 ≠ -1 := fun e => h1 (beq_iff_eq.2 e)
      have h3 : ¬ (Lib.indexByte l 34 + 1 == -1) = true := fun e => by have := beq_iff_eq.1 e; omega
      have h4 : (Lib.indexByte l 34 + 1).toNat = (Lib.indexByte l 34).toNat + 1 := by omega
      rw [if_neg h1, if_neg h3, if_neg h1, h4]
      rfl
theorem rep_eq (l : List UInt8) (k : Nat) : Lib.replaceK [34] [34, 34] (k + 1) (34 :: l) = 34 :: 34 :: Lib.replaceK [34] [34, 34] k l := by
  rw [Lib.replaceK, Lib.index_one, Lib.indexByte]
  rfl
theorem rep_all : ∀ l : List UInt8, Lib.replaceK [34] [34, 34] (Lib.count l [34]) l = l.flatMap dblQ
  | [] => by
    cases Lib.count [] [34] with
    | zero => rfl
    | succ k => rfl
  | b :: l => by
    by_cases h : b = 34
    · subst h
      rw [Lib.count_cons_eq, Nat.add_comm, rep_eq, rep_all l]; rfl
    · rw [Lib.count_cons_ne b 34 l h, rep_ne h, rep_all l]
      rw [List.flatMap_cons, dblQ, if_neg h]; rfl
theorem rep_quo (l : List UInt8) : Lib.replaceAll l [34] [34, 34] = l.flatMap dblQ := by
  rw [Lib.replaceAll, Lib.replace, if_neg (by decide), Lib.replaceNum, if_pos (Or.inl (by decide)), rep_all]
theorem dbl_len (l : List UInt8) : (l.flatMap dblQ).length ≤ 2 * l.length := by
  induction l with
  | nil => exact Nat.le_refl _
  | cons b l ih =>
    have : (dblQ b).length ≤ 2 := by unfold dblQ; split <;> simp
    rw [List.flatMap_cons, List.length_append, List.length_cons]; omega
theorem any_chars (chars : List UInt8) : ∀ s : List UInt8, Lib.containsAny s chars = s.any fun b => chars.contains b
  | [] => rfl
  | b :: l => by
    have ih := any_chars chars l
    have hge := Lib.indexAny_ge chars l
    unfold Lib.containsAny at ih ⊢
    rw [List.any_cons, Lib.indexAny, ← ih]
    cases h : chars.contains b with
    | true => rfl
    | false =>
      rw [if_neg (by decide), Bool.false_or]
      by_cases h1 : (Lib.indexAny l chars == -1) = true
      · rw [if_pos h1, beq_iff_eq.1 h1]
      · have h2 : Lib.indexAny l chars ≠ -1 := fun e => h1 (beq_iff_eq.2 e)
        rw [if_neg h1, Bool.eq_iff_iff, decide_eq_true_eq, decide_eq_true_eq]; omega
def repQ (s : ByteArray) : ByteArray := bs (s.data.toList.flatMap dblQ)
theorem bs_size (l : List UInt8) : (bs l).size = l.length := by show l.toArray.size = _; simp
theorem repQ_size (s : ByteArray) : (repQ s).size ≤ 2 * s.size := by
  rw [repQ, bs_size]
  have := dbl_len s.data.toList
  rw [sz_len] at this; exact this
def spc (b : UInt8) : Bool := b == 44 || (b == 34 || (b == 10 || b == 13))
theorem any_spc (s : ByteArray) : Lib.containsAny s.data.toList charsB.data.toList = s.data.toList.any spc := by
  rw [any_chars]
  congr 1
  funext b
  simp [charsB, spc]
  rfl
theorem extraP : Builder.Extra Tryz.prog Tryz.laysReplace_ren where
  sizeBuilder := by kernel_rfl
  liesBuilder := by kernel_rfl
  t5 := Tryz.underlying5
  a5 := Tryz.isAgg5
  z5 := Tryz.sizeOf5
  v5 := Tryz.zeroValue5
  infoByte := by kernel_rfl
  cellsByte := by kernel_rfl
  sizeByte := by kernel_rfl
  neB5 := by decide
theorem rep78_D (s : ByteArray) (hs : s.size ≤ 1024) : DPure Tryz.prog 78 [strV s, strV quoB, strV quo2B] (strV (repQ s)) := by
  refine DPure.kit (args := [.string s, .string quoB, .string quo2B]) fun w hg => ?_
  obtain ⟨⟨m, h1⟩, _⟩ := hg
  have hc := Lib.countB_le quoB (by decide) s.size s (Nat.le_refl _)
  exact (Any.strings_ReplaceAll { Tryz.laysReplace with } extraP s quoB quo2B m w (by omega) h1 (by decide) (by show s.size + Lib.countB s quoB * 2 ≤ _; omega)).mono fun e w' ⟨he, hw⟩ => ⟨_, he.trans (by rw [show Lib.replaceAll s.data.toList quoB.data.toList quo2B.data.toList = s.data.toList.flatMap dblQ from rep_quo _]; rfl), hw, fun F hF => .data (.v _ rfl)⟩
def wrT (s : ByteArray) (alone : Bool) : Bool := bif s.data.toList.any spc then true else bif s == emB then alone else false
def wrB (s : ByteArray) (alone : Bool) : ByteArray := bif wrT s alone then quoB ++ repQ s ++ quoB else s
theorem wr_yes {s : ByteArray} {alone : Bool} (h : wrT s alone = true) : strV (quoB ++ repQ s ++ quoB) = strV (wrB s alone) := by rw [wrB, h]; rfl
theorem wr_no {s : ByteArray} {alone : Bool} (h : wrT s alone = false) : strV s = strV (wrB s alone) := by rw [wrB, h]; rfl
theorem wrB_size (s : ByteArray) (alone : Bool) : (wrB s alone).size ≤ 2 * s.size + 2 := by
  have := repQ_size s
  unfold wrB
  cases wrT s alone with
  | true => show (quoB ++ repQ s ++ quoB).size ≤ _
            rw [ByteArray.size_append, ByteArray.size_append]
            have : quoB.size = 1 := rfl
            omega
  | false => show s.size ≤ _; omega
attribute [local irreducible] repQ
set_option maxRecDepth 20000 in
theorem wr45_D (s : ByteArray) (alone : Bool) (hs : s.size ≤ 1024) (ha : Asc s) : DPure Tryz.prog 45 [strV s, bl alone] (strV (wrB s alone)) := by
  have hr := repQ_size s
  have hany := any77_D s (by omega) ha
  rw [any_spc] at hany
  refine DFun.body Tryz.func45 rfl (by kernel_rfl) ?_
  repeat' (first | with_reducible rfl | ((conv => whnf); first | refine And.intro ?_ ?_ | (intro h; first | with_reducible exact tf_no h | with_reducible exact ft_no h | exact Bool.noConfusion h | with_reducible exact h | (have ht : true = true := h; clear ht h) | skip) | ((with_reducible refine SCall.mark ?_); first | refine SCall.data (hany) rfl rfl ?_ | refine SCall.scal (hany) rfl rfl ?_ | refine SCall.data (rep78_D s hs) rfl rfl ?_ | refine SCall.scal (rep78_D s hs) rfl rfl ?_) | ((with_reducible refine PCall.mark ?_); first | refine PCall.mk (hany) rfl rfl ?_ | refine PCall.mk (rep78_D s hs) rfl rfl ?_) | ((with_reducible refine GCall.mark ?_); first | refine GCall.data (fun _ => hany) rfl rfl ?_ | refine GCall.scal (fun _ => hany) rfl rfl ?_ | refine GCall.data (fun _ => rep78_D s hs) rfl rfl ?_ | refine GCall.scal (fun _ => rep78_D s hs) rfl rfl ?_) | ((with_reducible refine MCall.mark ?_); first | refine MCall.data (fun _ => hany) rfl rfl ?_ | refine MCall.plain (PCall.mk (hany) rfl rfl ?_) | refine MCall.data (fun _ => rep78_D s hs) rfl rfl ?_ | refine MCall.plain (PCall.mk (rep78_D s hs) rfl rfl ?_)) | ((with_reducible refine ECall.mark ?_); first | refine ECall.only ?_ (fun h => nomatch h) | refine ECall.only ?_ ?_) | ((with_reducible refine Drawn.mark ?_); first | refine Drawn.quiet (by kernel_rfl) ?_) | refine dcell_ok rfl ?_ | refine AppC.new ?_))
  all_goals first | (with_reducible refine enters_mark ?_; kernel_rfl) | (with_reducible refine boolT_mark ?_; kernel_rfl) | rfl | trivial | assumption | exact Nat.le_of_ble_eq_true rfl | (show entersB _ _ = true; kernel_rfl) | exact DW.same _ rfl | exact DW.ref _ _ _ rfl | exact DW.arr _ _ _ rfl | refine DW.int ?_ | refine dvb ?_ | refine dvi ?_ | exact OW.cells rfl rfl (DWl.same rfl) | skip
  all_goals repeat' (first | exact OW.cells rfl rfl (DWl.same rfl) | refine OW.cells rfl rfl ?_ | exact DW.nilArr _ rfl | refine DW.clol ?_ ?_ | refine DWl.cons ?_ ?_ | exact DWl.nil | exact DW.same _ rfl | exact DW.ref _ _ _ rfl | exact DW.arr _ _ _ rfl | refine DW.int ?_)
  all_goals try (simp_all; done)
  all_goals try (simp at *; omega)
  · show 1 + (repQ s).size ≤ _
    omega
  · rw [ByteArray.size_append]
    show 1 + (repQ s).size + 1 ≤ _
    omega
  · conv => whnf
    exact wr_yes h
  · conv => whnf
    exact wr_no h
end Go.Proofs.YtlchjjchgebfiaaGreatDoor
namespace Go.Proofs.YtlchjjchgebfiaaGreatDoor
open Go.RowKit Go.Dl
attribute [local irreducible] Tri SCall TSem ECall Drawn DFun QSem PSem PCall GCall MCall Round Weak dloadE OW DWl Tells IntKind.wrap Retold ESem
theorem bytesD_app (a b : ByteArray) : bytesD (a ++ b) = bytesD a ++ bytesD b := by simp [bytesD, Lib.strCells]
theorem bytesD_all (a : ByteArray) : (bytesD a).all noId1 = true := by
  rw [List.all_eq_true]
  intro d hd
  obtain ⟨v, _, rfl⟩ := List.mem_map.1 hd
  rfl
theorem bytesD_take (a : ByteArray) : (bytesD a).take (a.size * 1) = bytesD a := List.take_of_length_le (by rw [bytesD_len]; omega)
theorem app63 {x y : Operand} {s : Sto} {ρ : Operand → DV} {K : DV → Sto → Prop} {id n : Nat} {o : DObj} {str : ByteArray} (hx : ρ x = .arr id n) (hy : ρ y = .v (.string str)) (hob : s.ob id = some o) (he : o.elem = 5) (hos : o.sz = 1) (hn : o.cells.length = n) (hlen : n + str.size ≤ 140737488355328)
    (hK : K (.arr s.nx (n + str.size)) ⟨upd (upd s.ob id none) s.nx (some ⟨5, 1, o.cells ++ bytesD str⟩), s.nx + 1⟩) : ESem Tryz.prog s (.call ⟨.builtin .append, #[x, y], #[63, 9]⟩) ρ K := by
  obtain ⟨i0, hi, hz0, hz1, hz2⟩ := info_parts extraJ.infoByte
  exact esem_appStr Tryz.underlying63 Tryz.underlying9 hi hz0 hz1 hz2 hx hy hob he hos hn hlen hK
theorem cc70_U {id : Nat} {b : DV} {s : Sto} {K : DV → Sto → Prop} (hob : s.ob id = some ⟨65, 2, [.ref id 0, b]⟩) (hK : K (.tup []) ⟨upd s.ob id (some ⟨65, 2, [.ref id 0, b]⟩), s.nx⟩) : SCall Tryz.prog 70 [.ref id 0] s K := cc70_S (f := false) hob hK
def comB : ByteArray := ⟨#[44]⟩
def nlB : ByteArray := ⟨#[10]⟩
def lineI (l : List ByteArray) (a : Bool) : Nat → ByteArray
  | 0 => emB
  | i + 1 => (bif decide (0 < (i : Int)) then lineI l a i ++ comB else lineI l a i) ++ wrB (l.getD i emB) a
def lineW (l : List ByteArray) (a : Bool) : ByteArray := lineI l a l.length ++ nlB
def lnSt (t : Tb) (l : List ByteArray) (acc : ByteArray) (a fr : Bool) (nb i : Nat) : St := ⟨⟨nb, []⟩, tmOf [(1, .ref 1 0), (2, .ref 0 0), (6, strs l), (7, int1 (l.map strD).length), (8, int1 i)], .of [(0, ⟨25, 2, tbD t⟩), (1, ⟨65, 2, [aB 1 (Nat.beq i 0 && fr), .arr nb (acc ++ lineI l a i).size]⟩), (nb, ⟨5, 1, bytesD (acc ++ lineI l a i)⟩)] (nb + 1)⟩
def aloneB (t : Tb) : Bool := ((t.head.map strD).length : Int) == 1
theorem emB_app (x : ByteArray) : emB ++ x = x := by
  apply ByteArray.ext
  rw [ByteArray.data_append]
  show #[] ++ x.data = x.data
  simp
theorem app_emB (x : ByteArray) : x ++ emB = x := by
  apply ByteArray.ext
  rw [ByteArray.data_append]
  show x.data ++ #[] = x.data
  simp
theorem app_asc (a b c : ByteArray) : a ++ b ++ c = a ++ (b ++ c) := by
  apply ByteArray.ext
  simp
theorem li_size {l : List ByteArray} {a : Bool} (hs : ∀ s ∈ l, s.size ≤ 1024 ∧ Asc s) : ∀ {i : Nat}, i ≤ l.length → (lineI l a i).size ≤ i * 2051
  | 0, _ => Nat.le_refl _
  | i + 1, hi => by
    have ih := li_size (a := a) hs (i := i) (by omega)
    have hm : l.getD i emB ∈ l := by rw [List.getD_eq_getElem?_getD, List.getElem?_eq_getElem (by omega)]; exact List.getElem_mem _
    have h1 := (hs _ hm).1
    have h2 := wrB_size (l.getD i emB) a
    rw [lineI, ByteArray.size_append]
    have h3 : (bif decide (0 < (i : Int)) then lineI l a i ++ comB else lineI l a i).size ≤ (lineI l a i).size + 1 := by
      cases decide (0 < (i : Int)) with
      | true => show (lineI l a i ++ comB).size ≤ _
                rw [ByteArray.size_append]; exact Nat.le_refl _
      | false => show (lineI l a i).size ≤ _; omega
    omega
theorem ln_size (acc : ByteArray) {l : List ByteArray} {a : Bool} {i : Nat} (hl : l.length ≤ 64) (hs : ∀ s ∈ l, s.size ≤ 1024 ∧ Asc s) (hi : i ≤ l.length) (ha : acc.size ≤ 1000000000) : (acc ++ lineI l a i).size ≤ 1000131264 := by
  have := li_size (a := a) hs hi
  rw [ByteArray.size_append]; omega
set_option maxRecDepth 20000 in
theorem ln_b1 (x : ByteArray) : x.size * Tryz.prog.types[5].size ≤ (bytesD x).length := by
  rw [bytesD_len]
  show x.size * 1 ≤ _
  omega
set_option maxRecDepth 20000 in
theorem ln_b2 {n : Nat} (h : n ≤ 1000131264) : (n + 1) * Tryz.prog.types[5].bytes ≤ 140737488355328 := by
  show (n + 1) * 1 ≤ _
  omega
theorem ln_b3 {n : Nat} (h : n ≤ 1000131264) : n + 1 ≤ maxLen := by simp only [maxLen]; omega
theorem ln_b4 {n : Nat} {s : ByteArray} {a : Bool} (h : n ≤ 1000131264) (h1 : s.size ≤ 1024) : n + 1 + (wrB s a).size ≤ 140737488355328 := by
  have := wrB_size s a
  omega
theorem ln_b5 {n : Nat} {s : ByteArray} {a : Bool} (h : n ≤ 1000131264) (h1 : s.size ≤ 1024) : n + (wrB s a).size ≤ 140737488355328 := by
  have := wrB_size s a
  omega
theorem ln_l1 (x : ByteArray) : ((bytesD x).take (x.size * 1) ++ [DV.v (.int .u8 44)]).length = x.size + 1 := by rw [bytesD_take, List.length_append, bytesD_len]; rfl
theorem ln_yes {acc : ByteArray} {l : List ByteArray} {a : Bool} {i : Nat} (h : decide (0 < (i : Int)) = true) : (bytesD (acc ++ lineI l a i)).take ((acc ++ lineI l a i).size * 1) ++ [DV.v (.int .u8 44)] ++ bytesD (wrB (l.getD (i : Int).toNat emB) a) = bytesD (acc ++ lineI l a (i + 1)) := by
  rw [bytesD_take, lineI, h, Int.toNat_natCast]
  show bytesD (acc ++ lineI l a i) ++ bytesD comB ++ _ = bytesD (acc ++ (lineI l a i ++ comB ++ _))
  rw [← bytesD_app, ← bytesD_app, app_asc, app_asc, app_asc]
theorem ln_yesN {acc : ByteArray} {l : List ByteArray} {a : Bool} {i : Nat} (h : decide (0 < (i : Int)) = true) : (acc ++ lineI l a i).size + 1 + (wrB (l.getD (i : Int).toNat emB) a).size = (acc ++ lineI l a (i + 1)).size := by
  rw [lineI, h, Int.toNat_natCast]
  show _ = (acc ++ (lineI l a i ++ comB ++ _)).size
  rw [ByteArray.size_append, ByteArray.size_append, ByteArray.size_append, ByteArray.size_append]
  have : comB.size = 1 := rfl
  omega
theorem ln_no {acc : ByteArray} {l : List ByteArray} {a : Bool} {i : Nat} (h : decide (0 < (i : Int)) = false) : bytesD (acc ++ lineI l a i) ++ bytesD (wrB (l.getD (i : Int).toNat emB) a) = bytesD (acc ++ lineI l a (i + 1)) := by
  rw [lineI, h, Int.toNat_natCast]
  show _ = bytesD (acc ++ (lineI l a i ++ _))
  rw [← bytesD_app, app_asc]
theorem ln_noN {acc : ByteArray} {l : List ByteArray} {a : Bool} {i : Nat} (h : decide (0 < (i : Int)) = false) : (acc ++ lineI l a i).size + (wrB (l.getD (i : Int).toNat emB) a).size = (acc ++ lineI l a (i + 1)).size := by
  rw [lineI, h, Int.toNat_natCast]
  show _ = (acc ++ (lineI l a i ++ _)).size
  rw [ByteArray.size_append, ByteArray.size_append, ByteArray.size_append]
  omega
theorem ln_end (acc : ByteArray) (l : List ByteArray) (a : Bool) : (bytesD (acc ++ lineI l a l.length)).take ((acc ++ lineI l a l.length).size * 1) ++ [DV.v (.int .u8 10)] = bytesD (acc ++ lineW l a) := by
  rw [bytesD_take]
  show bytesD (acc ++ lineI l a l.length) ++ bytesD nlB = _
  rw [← bytesD_app, lineW, app_asc]
theorem ln_endN (acc : ByteArray) (l : List ByteArray) (a : Bool) : (acc ++ lineI l a l.length).size + 1 = (acc ++ lineW l a).size := by
  rw [lineW, ← app_asc]
  exact (ByteArray.size_append (a := acc ++ lineI l a l.length) (b := nlB)).symm
theorem aT_dw {ρ : Nat → Option Nat} {s : Sto} {pub : Nat → Prop} : DW ρ s pub (.v (.pointer none)) (aB 1 (Nat.beq 0 0 && true)) := DW.same _ rfl
theorem aF_dw {ρ : Nat → Option Nat} {s : Sto} {pub : Nat → Prop} {f : Bool} (h : ρ 1 = some 1) (hf : f = false) : DW ρ s pub (.ref 1 0) (aB 1 f) := by subst hf; exact DW.ref 1 1 0 h
theorem em_size (l : List ByteArray) (a : Bool) : 0 = (emB ++ lineI l a 0).size := rfl
theorem em_bytes (l : List ByteArray) (a : Bool) : bytesD (emB ++ lineI l a 0) = [] := rfl
theorem acc_size (acc : ByteArray) (l : List ByteArray) (a : Bool) : acc.size = (acc ++ lineI l a 0).size := by rw [lineI, app_emB]
theorem acc_bytes (acc : ByteArray) (l : List ByteArray) (a : Bool) : bytesD acc = bytesD (acc ++ lineI l a 0) := by rw [lineI, app_emB]
theorem DW.nilArrE {ρ : Nat → Option Nat} {s : Sto} {pub : Nat → Prop} {id n : Nat} (h : ρ id = none) (hn : 0 = n) : DW ρ s pub (.v (.slice none 0 0)) (.arr id n) := by subst hn; exact DW.nilArr _ h
attribute [local irreducible] aB wrB lineI bytesD lineW
set_option maxRecDepth 20000 in
set_option maxHeartbeats 1000000 in
theorem lineF_S (t : Tb) (l : List ByteArray) (hl : l.length ≤ 64) (hs : ∀ s ∈ l, s.size ≤ 1024 ∧ Asc s) {K : DV → Sto → Prop}
    (hK : K (.tup []) (.of [(0, ⟨25, 2, tbD t⟩), (1, ⟨65, 2, [.ref 1 0, .arr 2 (emB ++ lineW l (aloneB t)).size]⟩), (2, ⟨5, 1, bytesD (emB ++ lineW l (aloneB t))⟩)] 3)) :
    SCall Tryz.prog 43 [strs l, .ref 1 0, .ref 0 0] (.of [(0, ⟨25, 2, tbD t⟩), (1, ⟨65, 2, [.v (.pointer none), .v (.slice none 0 0)]⟩)] 2) K := by
  have hw := fun s (h : s ∈ l) => wr45_D s (aloneB t) (hs s h).1 (hs s h).2
  refine SCall.retell (SCall.run Tryz.func43 rfl (Nat.le_of_ble_eq_true rfl) (by kernel_rfl) ?_)
  repeat' (first | with_reducible rfl | ((conv => whnf); first | refine And.intro ?_ ?_ | (intro h; first | with_reducible exact tf_no h | with_reducible exact ft_no h | exact Bool.noConfusion h | with_reducible exact h | (have ht : true = true := h; clear ht h) | skip) | ((with_reducible refine DWl.mark ?_); repeat' (first | refine DWl.cons ?_ ?_ | exact DWl.nil | exact DW.same _ rfl | exact DW.ref _ _ _ rfl | exact DW.arr _ _ _ rfl | exact DW.sub _ _ _ _ rfl | exact DW.mo _ _ rfl | exact DW.nilLst _ | refine DW.aggl ?_ | refine DW.tupl ?_ | refine DW.clol ?_ ?_ | refine DW.int ?_ | refine DW.bool ?_ | refine DW.str ?_)) | ((with_reducible refine SCall.mark ?_); first | refine SCall.run Tryz.func44 rfl (Nat.le_of_ble_eq_true rfl) (by kernel_rfl) ?_ | refine SCall.run Tryz.func36 rfl (Nat.le_of_ble_eq_true rfl) (by kernel_rfl) ?_ | refine cc70_S rfl ?_ | refine cc70_U rfl ?_ | refine SCall.data (hw _ ?_) rfl rfl ?_ | refine SCall.scal (hw _ ?_) rfl rfl ?_) | ((with_reducible refine PCall.mark ?_); first | refine PCall.mk (hw _ ?_) rfl rfl ?_) | ((with_reducible refine GCall.mark ?_); first | refine GCall.data (fun _ => hw _ ?_) rfl rfl ?_ | refine GCall.scal (fun _ => hw _ ?_) rfl rfl ?_) | ((with_reducible refine MCall.mark ?_); first | refine MCall.data (fun _ => hw _ ?_) rfl rfl ?_ | refine MCall.plain (PCall.mk (hw _ ?_) rfl rfl ?_)) | ((with_reducible refine Tri.mark ?_); first | refine Tri.loop (lnSt t l (emB) (aloneB t) true 2) ((· ≤ l.length)) (fun i => l.length - i) (0) (by kernel_rfl) (Weak.list [(2, none)] [] ?_ ?_ ?_) ?_ ?_) | ((with_reducible refine ECall.mark ?_); first | refine ECall.only ?_ (fun h => nomatch h) | refine ECall.only ?_ ?_) | ((with_reducible refine Drawn.mark ?_); first | refine Drawn.quiet (by kernel_rfl) ?_) | refine app63 rfl rfl rfl rfl rfl ?_ ?_ ?_ | refine dloadE_map (emB) ?_ ?_ | refine dcell_ok rfl ?_ | refine AppC.new ?_))
  all_goals first | (with_reducible refine enters_mark ?_; kernel_rfl) | (with_reducible refine boolT_mark ?_; kernel_rfl) | rfl | trivial | assumption | exact Nat.le_of_ble_eq_true rfl | (show entersB _ _ = true; kernel_rfl) | exact DW.same _ rfl | exact DW.ref _ _ _ rfl | exact DW.arr _ _ _ rfl | refine DW.int ?_ | refine dvb ?_ | refine dvi ?_ | exact OW.cells rfl rfl (DWl.same rfl) | exact Nat.zero_le _ | omega | skip
  all_goals repeat' (first | refine OW.cells rfl rfl ?_ | exact DW.nilArr _ rfl | refine DWl.cons ?_ ?_ | exact DWl.nil | exact DW.same _ rfl | exact DW.ref _ _ _ rfl | exact DW.arr _ _ _ rfl | exact DW.sub _ _ _ _ rfl | exact DW.mo _ _ rfl | exact DW.nilLst _ | refine DW.aggl ?_ | refine DW.tupl ?_ | refine DW.clol ?_ ?_)
  all_goals try ((conv => whnf); with_reducible first | refine Round.mark ?_ | refine Tells.mark ?_ | refine Retold.mark ?_)
  all_goals try first | (show (_ : Bool) = _; simp_all; done) | (show (_ : Int) < _; simp at *; omega) | (show (_ : Int) ≤ _; simp at *; omega) | (show (_ : Nat) < _; simp at *; omega) | (show (_ : Nat) ≤ _; simp at *; omega)
  · exact aT_dw
  · exact DW.nilArrE rfl (em_size _ _)
  · exact em_bytes _ _
  · exact ln_b1 _
  · rename_i i hi e0
    exact ln_b2 (ln_size (emB) hl hs (i := i) hi (Nat.zero_le _))
  · rename_i i hi e0
    exact ln_b3 (ln_size (emB) hl hs (i := i) hi (Nat.zero_le _))
  · rename_i i hi e0
    exact mem_at (lt_of_test e0)
  · exact ln_l1 _
  · rename_i i hi e0
    exact ln_b4 (ln_size (emB) hl hs (i := i) hi (Nat.zero_le _)) (hs _ (mem_at (lt_of_test e0))).1
  · rename_i i hi e0
    have hlt := lt_of_test e0
    refine Round.go (· + 1) hlt (by show l.length - (i + 1) < l.length - i; omega) (Weak.list [(2, some 5)] [] (by kernel_rfl) ?_ ?_)
    iterate 2 · repeat' (first | exact wsucc hlt (by omega) | exact DWl.eq (ln_yes h) (bytesD_all _) | exact ln_yesN h | exact aF_dw rfl rfl | exact DW.same _ rfl | exact DW.ref _ _ _ rfl | exact DW.arr _ _ _ rfl | exact OW.cells rfl rfl (DWl.same rfl) | refine OW.cells rfl rfl ?_ | refine DWl.cons ?_ ?_ | exact DWl.nil | exact DW.nilArr _ rfl | exact DW.nilLst _ | refine DW.clol ?_ ?_ | refine DW.aggl ?_ | refine DW.tupl ?_ | refine DW.int ?_ | refine DW.bool ?_ | refine DW.str ?_ | refine DW.arrE rfl ?_ | ((conv => whnf); first | refine And.intro ?_ ?_ | trivial))
  · rename_i i hi e0
    exact mem_at (lt_of_test e0)
  · exact bytesD_len _
  · rename_i i hi e0
    exact ln_b5 (ln_size (emB) hl hs (i := i) hi (Nat.zero_le _)) (hs _ (mem_at (lt_of_test e0))).1
  · rename_i i hi e0
    have hlt := lt_of_test e0
    refine Round.go (· + 1) hlt (by show l.length - (i + 1) < l.length - i; omega) (Weak.list [(2, some 3)] [] (by kernel_rfl) ?_ ?_)
    iterate 2 · repeat' (first | exact wsucc hlt (by omega) | exact DWl.eq (ln_no h) (bytesD_all _) | exact ln_noN h | exact aF_dw rfl rfl | exact DW.same _ rfl | exact DW.ref _ _ _ rfl | exact DW.arr _ _ _ rfl | exact OW.cells rfl rfl (DWl.same rfl) | refine OW.cells rfl rfl ?_ | refine DWl.cons ?_ ?_ | exact DWl.nil | exact DW.nilArr _ rfl | exact DW.nilLst _ | refine DW.clol ?_ ?_ | refine DW.aggl ?_ | refine DW.tupl ?_ | refine DW.int ?_ | refine DW.bool ?_ | refine DW.str ?_ | refine DW.arrE rfl ?_ | ((conv => whnf); first | refine And.intro ?_ ?_ | trivial))
  · exact ln_b1 _
  · rename_i i hi
    exact ln_b2 (ln_size (emB) hl hs (i := i) hi (Nat.zero_le _))
  · rename_i i hi
    exact ln_b3 (ln_size (emB) hl hs (i := i) hi (Nat.zero_le _))
  · rename_i i hi
    have hi : i = l.length := by have := ge_of_test h; have : i ≤ l.length := hi; omega
    subst hi
    refine Retold.list [(2, some 4)] [] (.tup []) [(0, ⟨25, 2, tbD t⟩), (1, ⟨65, 2, [.ref 1 0, .arr 2 (emB ++ lineW l (aloneB t)).size]⟩), (2, ⟨5, 1, bytesD (emB ++ lineW l (aloneB t))⟩)] 3 (by kernel_rfl) ?_ ?_ hK
    iterate 2 · repeat' (first | exact DWl.eq (ln_end _ _ _) (bytesD_all _) | exact ln_endN _ _ _ | exact DW.same _ rfl | exact DW.ref _ _ _ rfl | exact DW.arr _ _ _ rfl | exact OW.cells rfl rfl (DWl.same rfl) | refine OW.cells rfl rfl ?_ | refine DWl.cons ?_ ?_ | exact DWl.nil | exact DW.nilArr _ rfl | exact DW.nilLst _ | refine DW.clol ?_ ?_ | refine DW.aggl ?_ | refine DW.tupl ?_ | refine DW.int ?_ | refine DW.bool ?_ | refine DW.str ?_ | refine DW.arrE rfl ?_ | ((conv => whnf); first | refine And.intro ?_ ?_ | trivial))
set_option maxRecDepth 20000 in
set_option maxHeartbeats 1000000 in
theorem lineU_S (t : Tb) (acc : ByteArray) (hacc : acc.size ≤ 1000000000) (l : List ByteArray) (hl : l.length ≤ 64) (hs : ∀ s ∈ l, s.size ≤ 1024 ∧ Asc s) {K : DV → Sto → Prop}
    (hK : K (.tup []) (.of [(0, ⟨25, 2, tbD t⟩), (1, ⟨65, 2, [.ref 1 0, .arr 3 (acc ++ lineW l (aloneB t)).size]⟩), (3, ⟨5, 1, bytesD (acc ++ lineW l (aloneB t))⟩)] 4)) :
    SCall Tryz.prog 43 [strs l, .ref 1 0, .ref 0 0] (.of [(0, ⟨25, 2, tbD t⟩), (1, ⟨65, 2, [.ref 1 0, .arr 2 acc.size]⟩), (2, ⟨5, 1, bytesD acc⟩)] 3) K := by
  have hw := fun s (h : s ∈ l) => wr45_D s (aloneB t) (hs s h).1 (hs s h).2
  refine SCall.retell (SCall.run Tryz.func43 rfl (Nat.le_of_ble_eq_true rfl) (by kernel_rfl) ?_)
  repeat' (first | with_reducible rfl | ((conv => whnf); first | refine And.intro ?_ ?_ | (intro h; first | with_reducible exact tf_no h | with_reducible exact ft_no h | exact Bool.noConfusion h | with_reducible exact h | (have ht : true = true := h; clear ht h) | skip) | ((with_reducible refine DWl.mark ?_); repeat' (first | refine DWl.cons ?_ ?_ | exact DWl.nil | exact DW.same _ rfl | exact DW.ref _ _ _ rfl | exact DW.arr _ _ _ rfl | exact DW.sub _ _ _ _ rfl | exact DW.mo _ _ rfl | exact DW.nilLst _ | refine DW.aggl ?_ | refine DW.tupl ?_ | refine DW.clol ?_ ?_ | refine DW.int ?_ | refine DW.bool ?_ | refine DW.str ?_)) | ((with_reducible refine SCall.mark ?_); first | refine SCall.run Tryz.func44 rfl (Nat.le_of_ble_eq_true rfl) (by kernel_rfl) ?_ | refine SCall.run Tryz.func36 rfl (Nat.le_of_ble_eq_true rfl) (by kernel_rfl) ?_ | refine cc70_S rfl ?_ | refine cc70_U rfl ?_ | refine SCall.data (hw _ ?_) rfl rfl ?_ | refine SCall.scal (hw _ ?_) rfl rfl ?_) | ((with_reducible refine PCall.mark ?_); first | refine PCall.mk (hw _ ?_) rfl rfl ?_) | ((with_reducible refine GCall.mark ?_); first | refine GCall.data (fun _ => hw _ ?_) rfl rfl ?_ | refine GCall.scal (fun _ => hw _ ?_) rfl rfl ?_) | ((with_reducible refine MCall.mark ?_); first | refine MCall.data (fun _ => hw _ ?_) rfl rfl ?_ | refine MCall.plain (PCall.mk (hw _ ?_) rfl rfl ?_)) | ((with_reducible refine Tri.mark ?_); first | refine Tri.loop (lnSt t l (acc) (aloneB t) false 3) ((· ≤ l.length)) (fun i => l.length - i) (0) (by kernel_rfl) (Weak.list [(3, some 2)] [] ?_ ?_ ?_) ?_ ?_) | ((with_reducible refine ECall.mark ?_); first | refine ECall.only ?_ (fun h => nomatch h) | refine ECall.only ?_ ?_) | ((with_reducible refine Drawn.mark ?_); first | refine Drawn.quiet (by kernel_rfl) ?_) | refine app63 rfl rfl rfl rfl rfl ?_ ?_ ?_ | refine dloadE_map (emB) ?_ ?_ | refine dcell_ok rfl ?_ | refine AppC.new ?_))
  all_goals first | (with_reducible refine enters_mark ?_; kernel_rfl) | (with_reducible refine boolT_mark ?_; kernel_rfl) | rfl | trivial | assumption | exact Nat.le_of_ble_eq_true rfl | (show entersB _ _ = true; kernel_rfl) | exact DW.same _ rfl | exact DW.ref _ _ _ rfl | exact DW.arr _ _ _ rfl | refine DW.int ?_ | refine dvb ?_ | refine dvi ?_ | exact OW.cells rfl rfl (DWl.same rfl) | exact Nat.zero_le _ | omega | skip
  all_goals repeat' (first | refine OW.cells rfl rfl ?_ | exact DW.nilArr _ rfl | refine DWl.cons ?_ ?_ | exact DWl.nil | exact DW.same _ rfl | exact DW.ref _ _ _ rfl | exact DW.arr _ _ _ rfl | exact DW.sub _ _ _ _ rfl | exact DW.mo _ _ rfl | exact DW.nilLst _ | refine DW.aggl ?_ | refine DW.tupl ?_ | refine DW.clol ?_ ?_)
  all_goals try ((conv => whnf); with_reducible first | refine Round.mark ?_ | refine Tells.mark ?_ | refine Retold.mark ?_)
  all_goals try first | (show (_ : Bool) = _; simp_all; done) | (show (_ : Int) < _; simp at *; omega) | (show (_ : Int) ≤ _; simp at *; omega) | (show (_ : Nat) < _; simp at *; omega) | (show (_ : Nat) ≤ _; simp at *; omega)
  · exact aF_dw rfl rfl
  · exact DW.arrE rfl (acc_size _ _ _)
  · exact DWl.eq (acc_bytes _ _ _) (bytesD_all _)
  · exact ln_b1 _
  · rename_i i hi e0
    exact ln_b2 (ln_size (acc) hl hs (i := i) hi hacc)
  · rename_i i hi e0
    exact ln_b3 (ln_size (acc) hl hs (i := i) hi hacc)
  · rename_i i hi e0
    exact mem_at (lt_of_test e0)
  · exact ln_l1 _
  · rename_i i hi e0
    exact ln_b4 (ln_size (acc) hl hs (i := i) hi hacc) (hs _ (mem_at (lt_of_test e0))).1
  · rename_i i hi e0
    have hlt := lt_of_test e0
    refine Round.go (· + 1) hlt (by show l.length - (i + 1) < l.length - i; omega) (Weak.list [(3, some 6)] [] (by kernel_rfl) ?_ ?_)
    iterate 2 · repeat' (first | exact wsucc hlt (by omega) | exact DWl.eq (ln_yes h) (bytesD_all _) | exact ln_yesN h | exact aF_dw rfl rfl | exact DW.same _ rfl | exact DW.ref _ _ _ rfl | exact DW.arr _ _ _ rfl | exact OW.cells rfl rfl (DWl.same rfl) | refine OW.cells rfl rfl ?_ | refine DWl.cons ?_ ?_ | exact DWl.nil | exact DW.nilArr _ rfl | exact DW.nilLst _ | refine DW.clol ?_ ?_ | refine DW.aggl ?_ | refine DW.tupl ?_ | refine DW.int ?_ | refine DW.bool ?_ | refine DW.str ?_ | refine DW.arrE rfl ?_ | ((conv => whnf); first | refine And.intro ?_ ?_ | trivial))
  · rename_i i hi e0
    exact mem_at (lt_of_test e0)
  · exact bytesD_len _
  · rename_i i hi e0
    exact ln_b5 (ln_size (acc) hl hs (i := i) hi hacc) (hs _ (mem_at (lt_of_test e0))).1
  · rename_i i hi e0
    have hlt := lt_of_test e0
    refine Round.go (· + 1) hlt (by show l.length - (i + 1) < l.length - i; omega) (Weak.list [(3, some 4)] [] (by kernel_rfl) ?_ ?_)
    iterate 2 · repeat' (first | exact wsucc hlt (by omega) | exact DWl.eq (ln_no h) (bytesD_all _) | exact ln_noN h | exact aF_dw rfl rfl | exact DW.same _ rfl | exact DW.ref _ _ _ rfl | exact DW.arr _ _ _ rfl | exact OW.cells rfl rfl (DWl.same rfl) | refine OW.cells rfl rfl ?_ | refine DWl.cons ?_ ?_ | exact DWl.nil | exact DW.nilArr _ rfl | exact DW.nilLst _ | refine DW.clol ?_ ?_ | refine DW.aggl ?_ | refine DW.tupl ?_ | refine DW.int ?_ | refine DW.bool ?_ | refine DW.str ?_ | refine DW.arrE rfl ?_ | ((conv => whnf); first | refine And.intro ?_ ?_ | trivial))
  · exact ln_b1 _
  · rename_i i hi
    exact ln_b2 (ln_size (acc) hl hs (i := i) hi hacc)
  · rename_i i hi
    exact ln_b3 (ln_size (acc) hl hs (i := i) hi hacc)
  · rename_i i hi
    have hi : i = l.length := by have := ge_of_test h; have : i ≤ l.length := hi; omega
    subst hi
    refine Retold.list [(3, some 5)] [] (.tup []) [(0, ⟨25, 2, tbD t⟩), (1, ⟨65, 2, [.ref 1 0, .arr 3 (acc ++ lineW l (aloneB t)).size]⟩), (3, ⟨5, 1, bytesD (acc ++ lineW l (aloneB t))⟩)] 4 (by kernel_rfl) ?_ ?_ hK
    iterate 2 · repeat' (first | exact DWl.eq (ln_end _ _ _) (bytesD_all _) | exact ln_endN _ _ _ | exact DW.same _ rfl | exact DW.ref _ _ _ rfl | exact DW.arr _ _ _ rfl | exact OW.cells rfl rfl (DWl.same rfl) | refine OW.cells rfl rfl ?_ | refine DWl.cons ?_ ?_ | exact DWl.nil | exact DW.nilArr _ rfl | exact DW.nilLst _ | refine DW.clol ?_ ?_ | refine DW.aggl ?_ | refine DW.tupl ?_ | refine DW.int ?_ | refine DW.bool ?_ | refine DW.str ?_ | refine DW.arrE rfl ?_ | ((conv => whnf); first | refine And.intro ?_ ?_ | trivial))
end Go.Proofs.YtlchjjchgebfiaaGreatDoor
namespace Go.Proofs.YtlchjjchgebfiaaGreatDoor
open Go.RowKit Go.Dl
attribute [local irreducible] Tri SCall TSem ECall Drawn DFun QSem PSem PCall GCall MCall Round Weak dloadE OW DWl Tells IntKind.wrap Retold ESem
def textI (t : Tb) : Nat → ByteArray
  | 0 => emB ++ lineW t.head (aloneB t)
  | i + 1 => textI t i ++ lineW (t.rows.getD i []) (aloneB t)
def textW (t : Tb) : ByteArray := textI t t.rows.length
def Wr (t : Tb) : Prop := t.rows.length ≤ 4096 ∧ (∀ l, l = t.head ∨ l ∈ t.rows → l.length ≤ 64 ∧ ∀ s ∈ l, s.size ≤ 1024 ∧ Asc s)
theorem lw_size {l : List ByteArray} {a : Bool} (hl : l.length ≤ 64) (hs : ∀ s ∈ l, s.size ≤ 1024 ∧ Asc s) : (lineW l a).size ≤ 131265 := by
  have := li_size (a := a) hs (Nat.le_refl _)
  rw [lineW, ByteArray.size_append]
  have : nlB.size = 1 := rfl
  omega
theorem row_at {t : Tb} (h : Wr t) {i : Nat} (hi : i < t.rows.length) : (t.rows.getD i []).length ≤ 64 ∧ ∀ s ∈ t.rows.getD i [], s.size ≤ 1024 ∧ Asc s :=
  h.2 _ (.inr (by rw [List.getD_eq_getElem?_getD, List.getElem?_eq_getElem hi]; exact List.getElem_mem hi))
theorem ti_size {t : Tb} (h : Wr t) : ∀ {i : Nat}, i ≤ t.rows.length → (textI t i).size ≤ (i + 1) * 131265
  | 0, _ => by
    rw [textI, emB_app]
    have := h.2 _ (.inl rfl)
    have := lw_size (a := aloneB t) this.1 this.2
    omega
  | i + 1, hi => by
    have ih := ti_size h (i := i) (by omega)
    have := row_at h (i := i) (by omega)
    have := lw_size (a := aloneB t) this.1 this.2
    rw [textI, ByteArray.size_append]
    omega
theorem lw_pos (l : List ByteArray) (a : Bool) : 0 < (lineW l a).size := by
  rw [lineW, ByteArray.size_append]
  have : nlB.size = 1 := rfl
  omega
theorem ti_pos (t : Tb) : ∀ i, 0 < (textI t i).size
  | 0 => by rw [textI, emB_app]; exact lw_pos _ _
  | i + 1 => by rw [textI, ByteArray.size_append]; have := ti_pos t i; omega
theorem ti_zero (t : Tb) : bytesD (emB ++ lineW t.head (aloneB t)) = bytesD (textI t 0) := rfl
theorem ti_zeroN (t : Tb) : (emB ++ lineW t.head (aloneB t)).size = (textI t 0).size := rfl
theorem ti_next (t : Tb) (i : Nat) : bytesD (textI t i ++ lineW (t.rows.getD (i : Int).toNat []) (aloneB t)) = bytesD (textI t (i + 1)) := rfl
theorem ti_nextN (t : Tb) (i : Nat) : (textI t i ++ lineW (t.rows.getD (i : Int).toNat []) (aloneB t)).size = (textI t (i + 1)).size := rfl
def wtSt (t : Tb) (i : Nat) : St := ⟨0, tmOf [(3, .ref 1 0), (4, .clo (.func 43) [] [.ref 1 0, .ref 0 0]), (13, rowsD t.rows), (14, int1 (t.rows.map rowD).length), (15, int1 i)], .of [(0, ⟨25, 2, tbD t⟩), (1, ⟨65, 2, [.ref 1 0, .arr 2 (textI t i).size]⟩), (2, ⟨5, 1, bytesD (textI t i)⟩)] 3⟩
attribute [local irreducible] textI lineW bytesD
set_option maxRecDepth 20000 in
set_option maxHeartbeats 1000000 in
theorem write14_D (t : Tb) (ht : Wr t) : DPure Tryz.prog 14 [tab t] (strV (textW t)) := by
  have hh := ht.2 _ (.inl rfl)
  refine DFun.data (DFun.body Tryz.func14 rfl (by kernel_rfl) ?_)
  repeat' (first | with_reducible rfl | ((conv => whnf); first | refine And.intro ?_ ?_ | (intro h; first | with_reducible exact tf_no h | with_reducible exact ft_no h | exact Bool.noConfusion h | with_reducible exact h | (have ht : true = true := h; clear ht h) | skip) | ((with_reducible refine DWl.mark ?_); repeat' (first | refine DWl.cons ?_ ?_ | exact DWl.nil | exact DW.same _ rfl | exact DW.ref _ _ _ rfl | exact DW.arr _ _ _ rfl | exact DW.sub _ _ _ _ rfl | exact DW.mo _ _ rfl | exact DW.nilLst _ | refine DW.aggl ?_ | refine DW.tupl ?_ | refine DW.clol ?_ ?_ | refine DW.int ?_ | refine DW.bool ?_ | refine DW.str ?_)) | ((with_reducible refine SCall.mark ?_); first | refine SCall.tidy (nx' := 2) [(0, ⟨25, 2, tbD t⟩), (1, ⟨65, 2, [.v (.pointer none), .v (.slice none 0 0)]⟩)] rfl ⟨rfl, rfl, trivial⟩ (lineF_S t _ hh.1 hh.2 ?_) | refine lineU_S t _ ?_ _ ?_ ?_ ?_ | refine str39_S rfl rfl ?_ ?_ ?_) | ((with_reducible refine Tri.mark ?_); first | refine Tri.loop (wtSt t) ((· ≤ t.rows.length)) (fun i => t.rows.length - i) (0) (by kernel_rfl) (Weak.list [(0, some 0), (1, some 1), (2, some 2)] [] ?_ ?_ ?_) ?_ ?_) | ((with_reducible refine ECall.mark ?_); first | refine ECall.only ?_ (fun h => nomatch h) | refine ECall.only ?_ ?_) | ((with_reducible refine Drawn.mark ?_); first | refine Drawn.quiet (by kernel_rfl) ?_) | refine dloadE_map (([] : List ByteArray)) ?_ ?_ | refine dcell_ok rfl ?_ | refine AppC.new ?_))
  all_goals first | (with_reducible refine enters_mark ?_; kernel_rfl) | (with_reducible refine boolT_mark ?_; kernel_rfl) | rfl | trivial | assumption | exact Nat.le_of_ble_eq_true rfl | (show entersB _ _ = true; kernel_rfl) | exact DW.same _ rfl | exact DW.ref _ _ _ rfl | exact DW.arr _ _ _ rfl | refine DW.int ?_ | refine dvb ?_ | refine dvi ?_ | exact OW.cells rfl rfl (DWl.same rfl) | exact Nat.zero_le _ | omega | skip
  all_goals repeat' (first | refine OW.cells rfl rfl ?_ | exact DW.nilArr _ rfl | refine DWl.cons ?_ ?_ | exact DWl.nil | exact DW.same _ rfl | exact DW.ref _ _ _ rfl | exact DW.arr _ _ _ rfl | exact DW.sub _ _ _ _ rfl | exact DW.mo _ _ rfl | exact DW.nilLst _ | refine DW.aggl ?_ | refine DW.tupl ?_ | refine DW.clol ?_ ?_)
  all_goals try ((conv => whnf); with_reducible first | refine Round.mark ?_ | refine Tells.mark ?_ | refine Retold.mark ?_)
  all_goals try first | (show (_ : Bool) = _; simp_all; done) | (show (_ : Int) < _; simp at *; omega) | (show (_ : Int) ≤ _; simp at *; omega) | (show (_ : Nat) < _; simp at *; omega) | (show (_ : Nat) ≤ _; simp at *; omega)
  · exact DW.arrE rfl (ti_zeroN t)
  · exact DWl.eq (ti_zero t) (bytesD_all _)
  · rename_i i hi
    have := ti_size ht (i := i) hi
    have h1 := ht.1
    have h2 : i ≤ t.rows.length := hi
    omega
  · exact (row_at ht (lt_of_test h)).1
  · rename_i i hi e0 s
    exact ((row_at ht (lt_of_test e0)).2 s h).1
  · rename_i i hi e0 s e1 j b
    exact ((row_at ht (lt_of_test e0)).2 s e1).2 j b h
  · rename_i i hi
    have hlt := lt_of_test h
    refine Round.go (· + 1) hlt (by show t.rows.length - (i + 1) < t.rows.length - i; omega) (Weak.list [(0, some 0), (1, some 1), (2, some 3)] [] (by kernel_rfl) ?_ ?_)
    iterate 2 · repeat' (first | exact wsucc hlt (by have := ht.1; omega) | exact DWl.eq (ti_next t i) (bytesD_all _) | exact ti_nextN t i | exact DW.same _ rfl | exact DW.ref _ _ _ rfl | exact DW.arr _ _ _ rfl | exact OW.cells rfl rfl (DWl.same rfl) | refine OW.cells rfl rfl ?_ | refine DWl.cons ?_ ?_ | exact DWl.nil | exact DW.nilArr _ rfl | exact DW.nilLst _ | refine DW.clol ?_ ?_ | refine DW.aggl ?_ | refine DW.tupl ?_ | refine DW.int ?_ | refine DW.bool ?_ | refine DW.str ?_ | refine DW.arrE rfl ?_ | ((conv => whnf); first | refine And.intro ?_ ?_ | trivial))
  · exact ti_pos t _
  · rename_i i hi
    have hi : i = t.rows.length := by have := ge_of_test h; have : i ≤ t.rows.length := hi; omega
    subst hi
    conv => whnf
    exact Tells.mk (DW.same _ rfl)
end Go.Proofs.YtlchjjchgebfiaaGreatDoor
