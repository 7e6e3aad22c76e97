/- What is known of the variables; the kit's contracts met: numbers written and read, a text split, texts joined. -/
import Derived.Test.YtkfbaeljcajjbaaGreatDoorShelf
import Derived.Test.YtkfbaeljcajjbaaGreatDoorDl28
import Derived.Stop.LaidErr
import Derived.Lib.LaidTab
import Derived.Lib.AtoiErrMem
import Derived.Shelf.Strings.OnBuilder
import Derived.Lib.Join
import Derived.KernelRfl
import Derived.Test.YtkfbaeljcajjbaaGreatDoorDl30
import Derived.Lib.SplitLaws
import Derived.Lib.ItoaMem
import Derived.Lib.ItoaLen
import Derived.Lib.ParseIntBTie

namespace Go.Proofs.YtkfbaeljcajjbaaGreatDoor
open Go.RowKit Go.Dl

abbrev errSyn : String := "strconv.ErrSyntax"
abbrev errRan : String := "strconv.ErrRange"
/-- The table's name, as the row bears it. -/
def powN : String := ((Rows.traceLinesRow.laid.map (·.1)).getD 2 "")
def okD (w : World) : Prop := (∃ m, w.cell? ⟨0, 0, none⟩ = some (.int .i64 m)) ∧ (∃ tp p, w.var? Tryz.prog errSyn = some #[.iface tp p]) ∧ (∃ tp p, w.var? Tryz.prog errRan = some #[.iface tp p]) ∧ Lib.TabIs Tryz.prog w powN .u64 Lib.pow10Tab
theorem var_lt {P : Program} {w : World} {n : String} {cs : Array Value} {g : Nat} (hg : P.globalNamed n = some g) (h : w.var? P n = some cs) : g < w.heap.size := by
  unfold World.var? at h
  rw [hg] at h
  rcases Nat.lt_or_ge g w.heap.size with h' | h'
  · exact h'
  · simp [Array.getElem?_eq_none h'] at h
theorem gSyn : Tryz.prog.globalNamed errSyn = some 1 := by kernel_rfl
theorem gRan : Tryz.prog.globalNamed errRan = some 2 := by kernel_rfl
theorem gPow : Tryz.prog.globalNamed powN = some 3 := by kernel_rfl
theorem okD_mono {w0 w : World} (hb : Below w0.heap.size w0 w) (h : okD w0) : okD w := by
  obtain ⟨⟨m, h1⟩, ⟨t2, p2, h2⟩, ⟨t3, p3, h3⟩, h4⟩ := h
  refine ⟨⟨m, ?_⟩, ⟨t2, p2, ?_⟩, ⟨t3, p3, ?_⟩, ?_⟩
  · rw [World.cell?_of_block (w := w0) (a := ⟨0, 0, none⟩) (hb.block 0 (World.block_lt_of_cell? _ _ h1))]; exact h1
  · exact var?_below hb gSyn (var_lt gSyn h2) h2
  · exact var?_below hb gRan (var_lt gRan h3) h3
  · exact var?_below hb gPow (var_lt gPow h4) h4
instance : Inhabited GlobS := ⟨⟨okD, okD_mono, false⟩⟩
theorem gok_iff {w : World} : Gok w ↔ okD w := Iff.rfl

def str (l : List UInt8) : DV := .v (.string ⟨l.toArray⟩)
def int1 (x : Int) : DV := .v (.int .i64 x)
theorem below_grow (w : World) (k : Nat) (os : Array Obj) : Below w.heap.size w (Sort.grow (w.drewN k) os) := by
  refine ⟨rfl, rfl, rfl, by simp [Sort.grow, World.drewN], fun i hi => ?_⟩
  simp [Sort.grow, World.drewN, Array.getElem?_append, hi]
theorem below_drew (w : World) (k : Nat) : Below w.heap.size w (w.drewN k) := ⟨rfl, rfl, rfl, Nat.le_refl _, fun _ _ => rfl⟩
def bs (l : List UInt8) : ByteArray := ⟨l.toArray⟩
def numB (n : Int) : ByteArray := bs (Lib.itoa n)
def strV (s : ByteArray) : DV := .v (.string s)
def bl (b : Bool) : DV := .v (.bool b)
theorem fmt46_D (n : Int) (h0 : -9223372036854775808 ≤ n) (h1 : n ≤ 9223372036854775807) : DPure Tryz.prog 46 [int1 n, int1 10] (strV (numB n)) :=
  DPure.kit (args := [.int .i64 n, .int .i64 10]) fun w hg => (Any.strconv_FormatInt_10 Tryz.laysFormat n h0 h1 w hg.2.2.2).mono fun e w' ⟨he, k, os, hw⟩ => by
    subst hw
    exact ⟨_, he, below_grow w k os, fun F hF => .data (.v _ rfl)⟩
theorem below_bytes (w : World) (t : TypeId) (s : ByteArray) : Below w.heap.size w (Lib.bytesWorld w t s) := Lib.bytesWorld_below w t s
/-- What strconv.ParseInt gives: a number; an error comes with 0, or with the end of the range. -/
def parseP (s : ByteArray) : DV := match Lib.parseIntB 64 s.data.toList with
  | .ok v => .tup [int1 v, .v .nilIface]
  | .range => .tup [int1 (Lib.intSat 64 s.data.toList), .ifc 124 .dead]
  | _ => .tup [int1 0, .ifc 124 .dead]
theorem rv_err {w : World} {F : Nat → Prop} {β : Beta} {x : Int} {v : Value} {t : TypeId} : RV w F β (.tup [int1 x, .ifc t .dead]) (.tuple #[.int .i64 x, .iface t v]) :=
  .tup _ [.int .i64 x, .iface t v] rfl (fun j d y h1 h2 => by
    match j, h1, h2 with
    | 0, h1, h2 => cases h1; cases h2; exact .data (.v _ rfl)
    | 1, h1, h2 => cases h1; cases h2; exact .ifc _ _ _ (.dead _))
theorem rv_num {w : World} {F : Nat → Prop} {β : Beta} {x : Int} : RV w F β (.tup [int1 x, .v .nilIface]) (.tuple #[.int .i64 x, .nilIface]) :=
  .tup _ [.int .i64 x, .nilIface] rfl (fun j d y h1 h2 => by
    match j, h1, h2 with
    | 0, h1, h2 => cases h1; cases h2; exact .data (.v _ rfl)
    | 1, h1, h2 => cases h1; cases h2; exact .data (.v _ rfl))
theorem parse44_D (s : ByteArray) (hs : s.size ≤ 281474976710656) : DPure Tryz.prog 44 [.v (.string s), int1 10, int1 64] (parseP s) := by
  refine DPure.kit (args := [.string s, .int .i64 10, .int .i64 64]) fun w hg => ?_
  obtain ⟨_, ⟨t2, p2, h2⟩, ⟨t3, p3, h3⟩, _⟩ := hg
  unfold parseP
  cases h : Lib.parseIntB 64 s.data.toList with
  | ok v =>
    refine (Any.strconv_ParseInt_10_at64_ok Tryz.laysParse s (by omega) v h w).mono fun e w' ⟨he, hw⟩ => ?_
    refine ⟨_, he, ?_, fun F hF => rv_num⟩
    rcases hw with rfl | ⟨t, rfl⟩
    · exact Below.refl _ _
    · exact below_bytes _ _ _
  | range =>
    refine (Any.strconv_ParseInt_10_at64_range_var Tryz.laysParse s hs h t3 p3 w h3).mono fun e w' ⟨N, he, _, _, hb⟩ => ?_
    exact ⟨_, he, hb, fun F hF => rv_err⟩
  | _ =>
    refine (Any.strconv_ParseInt_10_at64_syntax_var Tryz.laysParse s hs h t2 p2 w h2).mono fun e w' ⟨N, he, _, _, hb⟩ => ?_
    exact ⟨_, he, hb, fun F hF => rv_err⟩
/-- The pieces between blanks. -/
def spaceB : ByteArray := ⟨#[32]⟩
def wordsB (s : ByteArray) : List ByteArray := Lib.splitB spaceB 0 (Lib.countB s spaceB) s
theorem words_len (s : ByteArray) : (wordsB s).length = Lib.countB s spaceB + 1 := Lib.splitB_all spaceB (by decide) 0 _ s rfl
def words (s : ByteArray) : DV := .lst 1 ((wordsB s).map fun x => [.v (.string x)])
theorem split21_D (s : ByteArray) (hs : s.size < 4294967281) : DPure Tryz.prog 21 [.v (.string s), .v (.string spaceB)] (words s) := by
  refine DPure.kit (args := [.string s, .string spaceB]) fun w hg => ?_
  obtain ⟨⟨m, h1⟩, _⟩ := hg
  refine (Any.strings_Split { Tryz.laysSplit with } Tryz.laysSplit.i9 s spaceB m w hs h1 (by decide)).mono fun e w' ⟨he, hw⟩ => ?_
  subst hw
  refine ⟨_, he, (Below.refl _ w).alloc (Nat.le_refl _) _, fun F hF => .data ?_⟩
  have hl := words_len s
  have hcnt := Lib.countB_le spaceB (by decide) s.size s (Nat.le_refl _)
  have hel : ((wordsB s).map fun x => [DV.v (.string x)]).length = Lib.countB s spaceB + 1 := by rw [List.length_map]; exact hl
  have key : RD (w.alloc (.cells ((wordsB s).map Value.string).toArray 9)) F (.lst 1 ((wordsB s).map fun x => [DV.v (.string x)])) (.slice (some ⟨w.heap.size, 0, none⟩) ((wordsB s).map fun x => [DV.v (.string x)]).length (Lib.countB s spaceB + 1)) := by
    refine RD.lst 1 _ _ w.heap.size 0 _ (fun i _ => .string ((wordsB s).getD i ByteArray.empty)) (fun _ => rfl) (fun h => by cases h) (Nat.le_of_eq hel) (by simp only [maxLen]; omega) (fun i cs h => ?_) (fun i cs j d h1 h2 => ?_) (fun i cs j d h1 h2 => ?_)
    · simp only [List.getElem?_map, Option.map_eq_some_iff] at h
      obtain ⟨x, _, rfl⟩ := h
      rfl
    · simp only [List.getElem?_map, Option.map_eq_some_iff] at h1
      obtain ⟨x, hx, rfl⟩ := h1
      match j, h2 with
      | 0, h2 =>
        refine ⟨?_, hF _ (Nat.le_refl _)⟩
        have e2 : (wordsB s).getD i ByteArray.empty = x := by rw [List.getD_eq_getElem?_getD, hx]; rfl
        rw [e2]
        have hg : (w.alloc (.cells ((wordsB s).map Value.string).toArray 9)).heap[w.heap.size]? = some (.cells ((wordsB s).map Value.string).toArray 9 (0, 0)) := heap_alloc_new w _
        simp only [World.cell?, hg]
        simp [hx]
    · simp only [List.getElem?_map, Option.map_eq_some_iff] at h1
      obtain ⟨x, hx, rfl⟩ := h1
      match j, h2 with
      | 0, h2 =>
        cases h2
        have e2 : (wordsB s).getD i ByteArray.empty = x := by rw [List.getD_eq_getElem?_getD, hx]; rfl
        rw [e2]
        exact .v _ rfl
  rw [hel] at key
  exact key
def strD (x : ByteArray) : List DV := [.v (.string x)]
def strs (l : List ByteArray) : DV := .lst 1 (l.map strD)
theorem words_strs (s : ByteArray) : words s = strs (wordsB s) := rfl
def joinB (ws : List ByteArray) : ByteArray := bs (Lib.join (ws.map (·.data.toList)) [32])
theorem extraJ : Builder.Extra Tryz.prog Tryz.laysJoin_ren where
  sizeBuilder := by kernel_rfl
  liesBuilder := by kernel_rfl
  t5 := Tryz.underlying5
  a5 := Tryz.isAgg5
  z5 := Tryz.sizeOf5
  v5 := Tryz.zeroValue5
  infoByte := by kernel_rfl
  cellsByte := by kernel_rfl
  sizeByte := by kernel_rfl
  neB5 := by decide
/-- A call of the kit's, met: of a list of texts and a text. -/
theorem DPure.kitS {f : FuncId} {ws : List ByteArray} {sep : ByteArray} {r : DV} (h : ∀ (w : World) (a : Option Addr) (bk o c : Nat), Gok w → (ws ≠ [] → a = some ⟨bk, o, none⟩) → (∀ (j : Nat) x, ws[j]? = some x → w.cell? ⟨bk, o + j, none⟩ = some (.string x)) → ws.length ≤ c →
      Calls Tryz.prog f #[.slice a ws.length c, .string sep] w fun e w' => ∃ v, e = .returned v ∧ Below w.heap.size w w' ∧ ∀ F : Nat → Prop, (∀ b, w.heap.size ≤ b → F b) → RV w' F (fun _ => none) r v) (hdr : Drs = false := by rfl) :
    DPure Tryz.prog f [strs ws, .v (.string sep)] r := fun w F vals hg hF hx => by
  match vals, hx.1 with
  | [x0, x1], _ =>
  have e1 : x1 = .string sep := rv_v (hx.2 1 _ _ rfl rfl)
  subst e1
  have h0 := hx.2 0 _ _ rfl rfl
  have key : ∃ a bk o c, x0 = .slice a ws.length c ∧ (ws ≠ [] → a = some ⟨bk, o, none⟩) ∧ (∀ (j : Nat) x, ws[j]? = some x → w.cell? ⟨bk, o + j, none⟩ = some (.string x)) ∧ ws.length ≤ c := by
    unfold strs at h0
    generalize hes : ws.map strD = es at h0
    cases h0 with
    | data hd =>
      cases hd with
      | lst _ _ a b off cap g ha hn hc hm hsz hcell hd =>
        have hl : es.length = ws.length := by rw [← hes, List.length_map]
        refine ⟨a, b, off, cap, by rw [hl], fun hne => ha (fun e => hne (by rw [e] at hl; exact List.eq_nil_of_length_eq_zero hl.symm)), fun j x hj => ?_, by omega⟩
        have h1 : es[j]? = some [DV.v (.string x)] := by rw [← hes, List.getElem?_map, hj]; rfl
        have h2 := (hcell j _ 0 _ h1 rfl).1
        have h3 := hd j _ 0 _ h1 rfl
        rw [Nat.mul_one, Nat.add_zero] at h2
        have e : g j 0 = .string x := rv_v (RV.data (β := fun _ => none) h3)
        rw [h2, e]
  obtain ⟨a, bk, o, c, rfl, k1, k2, k3⟩ := key
  refine (h w a bk o c hg k1 k2 k3).mono fun e w' ⟨v, he, hb, hr⟩ => ?_
  obtain ⟨k1, _⟩ := (SRel.empty w F hg hF).below' (.of hb fun e => by rw [hdr] at e; cases e)
  refine ⟨v, r, _, _, he, rfl, k1, (hr F hF).mono (fun _ _ h => h) fun b hb hFb => ⟨⟨hFb, ?_⟩, rfl⟩⟩
  rcases Nat.lt_or_ge b w.heap.size with hlt | hge
  · exact .inl hlt
  · exact .inr ⟨hge, fun i c hi => by cases hi⟩
theorem join36_D (ws : List ByteArray) (h2 : 2 ≤ ws.length) (hlen : (joinB ws).size ≤ 140737488355328) (hw : ws.length ≤ 140737488355328) : DPure Tryz.prog 36 [strs ws, .v (.string spaceB)] (strV (joinB ws)) :=
  DPure.kitS fun w a bk o c hg ha hcells hc => by
    have hne : ws ≠ [] := fun e => by rw [e] at h2; exact absurd h2 (by decide)
    rw [ha hne]
    obtain ⟨x, hx⟩ : ∃ x, ws[0]? = some x := ⟨_, List.getElem?_eq_getElem (by omega)⟩
    have hbk : bk < w.heap.size := World.block_lt_of_cell? w _ (hcells 0 x hx)
    refine (Any.strings_Join_many Tryz.laysJoin extraJ bk o c ws spaceB w hcells hbk h2 hw hc (by
      have e : (joinB ws).size = (Lib.join (ws.map (·.data.toList)) [32]).length := by show (Lib.join (ws.map (·.data.toList)) [32]).toArray.size = _; simp
      rw [e] at hlen; exact hlen)).mono fun e w' ⟨he, hb⟩ => ?_
    exact ⟨_, he, hb, fun F hF => .data (.v _ rfl)⟩
theorem wrap64 {k : Nat} (h : k < 9223372036854775808) : IntKind.i64.wrap (k : Int) = k := by
  simp [IntKind.wrap, IntKind.bits, IntKind.signed]; omega
theorem wrapI {x : Int} (h : -9223372036854775808 ≤ x) (h2 : x < 9223372036854775808) : IntKind.i64.wrap x = x := by
  simp [IntKind.wrap, IntKind.bits, IntKind.signed]; omega
theorem take_succ_eq {α : Type} {a b : List α} {d : α} {k : Nat} (hl : a.length = b.length) (h : a.take k = b.take k) (hk : k < a.length) (e : a.getD k d = b.getD k d) : a.take (k + 1) = b.take (k + 1) := by
  have h1 : a[k]? = b[k]? := by
    simp only [List.getD_eq_getElem?_getD, List.getElem?_eq_getElem hk, List.getElem?_eq_getElem (show k < b.length by omega), Option.getD_some] at e ⊢
    rw [e]
  rw [List.take_add_one, List.take_add_one, h, h1]
theorem take_succ {α : Type} {a : List α} {d : α} {k : Nat} (hk : k < a.length) : a.take (k + 1) = a.take k ++ [a.getD k d] := by
  rw [List.take_add_one, List.getElem?_eq_getElem hk, List.getD_eq_getElem?_getD, List.getElem?_eq_getElem hk]; rfl
theorem _root_.Go.Dl.Tri.at {P : Program} {N : Nat} {Y : YT} {c : Code} {st : St} {Q : DExit → St → Prop} (t : Nat) (d : DV) (_ : st.tm t = d) (h : Tri P N Y c st Q) : Tri P N Y c st Q := h
theorem wsucc {k n : Nat} (h : k < n) (hn : n ≤ 9223372036854775807) : IntKind.i64.wrap ((k : Int) + 1) = ((k + 1 : Nat) : Int) := by
  have := wrap64 (k := k + 1) (by omega)
  simpa using this
theorem lt_of_test {k : Nat} {α : Type} {f : α → List DV} {l : List α} (h : decide ((k : Int) < ((l.map f).length : Nat)) = true) : k < l.length := by simpa using h
theorem ge_of_test {k : Nat} {α : Type} {f : α → List DV} {l : List α} (h : decide ((k : Int) < ((l.map f).length : Nat)) = false) : l.length ≤ k := by simpa using h
theorem lt_int {k n : Nat} (h : decide ((k : Int) < (n : Int)) = true) : k < n := by simpa using h
theorem ge_int {k n : Nat} (h : decide ((k : Int) < (n : Int)) = false) : n ≤ k := by simpa using h
theorem _root_.Go.Dl.DWl.eq {ρ : Nat → Option Nat} {s : Sto} {pub : Nat → Prop} {X Y : List DV} (h : X = Y) (hall : Y.all noId1 = true) : DWl ρ s pub X Y := by rw [h]; exact DWl.same hall
theorem not_t {b : Bool} {Q : Prop} (h : b = true) (e : b = false) : Q := by rw [e] at h; cases h
theorem not_f {b : Bool} {Q : Prop} (h : b = false) (e : b = true) : Q := by rw [e] at h; cases h

theorem ba_eq {a b : ByteArray} : (a == b) = true ↔ a = b := by
  obtain ⟨a⟩ := a
  obtain ⟨b⟩ := b
  show (a == b) = true ↔ _
  simp
end Go.Proofs.YtkfbaeljcajjbaaGreatDoor

/- Moments: what is fit, how it is written; plain lists. -/
namespace Go.Proofs.YtkfbaeljcajjbaaGreatDoor
open Go.RowKit Go.Dl
structure Mo where
  step : Int
  node : Int
  kind : Int
  peer : Int
  name : ByteArray
  num : Int
def mo0 : Mo := ⟨0, 0, 0, 0, ByteArray.empty, 0⟩
def moD (m : Mo) : List DV := [int1 m.step, int1 m.node, int1 m.kind, int1 m.peer, strV m.name, int1 m.num]
def okN (b : Int) : Prop := (97 ≤ b ∧ b ≤ 122) ∨ (48 ≤ b ∧ b ≤ 57) ∨ b = 95
instance (b : Int) : Decidable (okN b) := by unfold okN; exact inferInstance
def NameP (s : ByteArray) : Prop := (1 ≤ s.size ∧ s.size ≤ 16) ∧ ∀ i, i < s.size → okN (byteAt s i)
instance (s : ByteArray) : Decidable (NameP s) := by unfold NameP; exact inferInstance
def nd (n : Int) : Prop := 0 ≤ n ∧ n < 16
instance (n : Int) : Decidable (nd n) := by unfold nd; exact inferInstance
def EvP (m : Mo) : Prop := (m.kind = 1 ∧ nd m.peer ∧ m.name = ByteArray.empty ∧ 1 ≤ m.num) ∨ (m.kind = 2 ∧ nd m.peer ∧ m.name = ByteArray.empty ∧ (1 ≤ m.num ∧ m.num ≤ 3)) ∨ (m.kind = 3 ∧ nd m.peer ∧ NameP m.name ∧ m.num ≠ 0) ∨ (m.kind = 4 ∧ nd m.peer ∧ NameP m.name ∧ m.num = 0) ∨ (m.kind = 5 ∧ m.peer = 0 ∧ NameP m.name ∧ 1 ≤ m.num) ∨ (m.kind = 6 ∧ nd m.peer ∧ m.name = ByteArray.empty ∧ (1 ≤ m.num ∧ m.num ≤ 5))
instance (m : Mo) : Decidable (EvP m) := by unfold EvP; exact inferInstance
def FitM (m : Mo) : Prop := (0 ≤ m.step ∧ nd m.node) ∧ EvP m
instance (m : Mo) : Decidable (FitM m) := by unfold FitM; exact inferInstance
def nameB (s : ByteArray) : Bool := decide (NameP s)
def fitM (m : Mo) : Bool := decide (FitM m)
def I64 (x : Int) : Prop := -9223372036854775808 ≤ x ∧ x ≤ 9223372036854775807
def I6 (m : Mo) : Prop := I64 m.step ∧ I64 m.num
def cHeld : List UInt8 := [104, 101, 108, 100]
def cBoot : List UInt8 := [98, 111, 111, 116]
def cDropped : List UInt8 := [100, 114, 111, 112, 112, 101, 100]
def cBy : List UInt8 := [98, 121]
def cBalanced : List UInt8 := [98, 97, 108, 97, 110, 99, 101, 100]
def cRange : List UInt8 := [114, 97, 110, 103, 101]
def cLearned : List UInt8 := [108, 101, 97, 114, 110, 101, 100]
def cEpoch : List UInt8 := [101, 112, 111, 99, 104]
def cIgnored : List UInt8 := [105, 103, 110, 111, 114, 101, 100]
def cMiss : List UInt8 := [109, 105, 115, 115]
def cBye : List UInt8 := [98, 121, 101]
def cUnlink : List UInt8 := [117, 110, 108, 105, 110, 107]
def cHello : List UInt8 := [104, 101, 108, 108, 111]
def cWelcome : List UInt8 := [119, 101, 108, 99, 111, 109, 101]
def cAsk : List UInt8 := [97, 115, 107]
def cAnswer : List UInt8 := [97, 110, 115, 119, 101, 114]
def whyL : List ByteArray := [⟨#[]⟩, bs cMiss, bs cBye, bs cUnlink]
def kindL : List ByteArray := [⟨#[]⟩, bs cHello, bs cWelcome, bs cAsk, bs cAnswer, bs cBye]
def restT (m : Mo) : List ByteArray := if m.kind = 1 then [bs cHeld, numB m.peer, bs cBoot, numB m.num] else if m.kind = 2 then [bs cDropped, numB m.peer, bs cBy, whyL.getD m.num.toNat ⟨#[]⟩] else if m.kind = 3 then [bs cBalanced, numB m.peer, m.name, numB m.num] else if m.kind = 4 then [bs cRange, numB m.peer, m.name] else if m.kind = 5 then [bs cLearned, m.name, bs cEpoch, numB m.num] else [bs cIgnored, numB m.peer, kindL.getD m.num.toNat ⟨#[]⟩]
def wsT (m : Mo) : List ByteArray := numB m.step :: numB m.node :: restT m
def lineF (m : Mo) : ByteArray := joinB (wsT m)
def lineT (m : Mo) : ByteArray := if fitM m = true then lineF m else ⟨#[]⟩
end Go.Proofs.YtkfbaeljcajjbaaGreatDoor

/- Numbers and words written are read: plain lists. -/
namespace Go.Proofs.YtkfbaeljcajjbaaGreatDoor
open Go.RowKit Go.Dl

theorem dig_val {d : Nat} (h : d < 10) : (UInt8.ofNat (48 + d)).toNat = 48 + d := by
  rw [UInt8.toNat_ofNat']; omega
theorem dec_rec {u : Nat} (h : ¬ u < 10) : Lib.decDigits u = Lib.decDigits (u / 10) ++ [UInt8.ofNat (48 + u % 10)] := by
  rw [Lib.decDigits, dif_neg h]
theorem dec_head (u : Nat) : ∃ c r, Lib.decDigits u = c :: r ∧ 48 ≤ c.toNat ∧ c.toNat ≤ 57 ∧ (c.toNat = 48 → u = 0 ∧ r = []) := by
  induction u using Nat.strongRecOn with
  | ind u ih =>
    by_cases h : u < 10
    · refine ⟨_, _, Lib.decDigits_one h, ?_⟩
      rw [dig_val h]
      exact ⟨by omega, by omega, fun e => ⟨by omega, rfl⟩⟩
    · obtain ⟨c, r, e, h1, h2, h3⟩ := ih (u / 10) (by omega)
      refine ⟨c, r ++ [UInt8.ofNat (48 + u % 10)], by rw [dec_rec h, e]; rfl, h1, h2, fun e => ?_⟩
      have := (h3 e).1
      omega
theorem dec_mem (u : Nat) : ∀ c ∈ Lib.decDigits u, 48 ≤ c.toNat ∧ c.toNat ≤ 57 := by
  induction u using Nat.strongRecOn with
  | ind u ih =>
    intro c hc
    by_cases h : u < 10
    · rw [Lib.decDigits_one h, List.mem_singleton] at hc
      subst hc
      rw [dig_val h]; omega
    · rw [dec_rec h] at hc
      rcases List.mem_append.1 hc with hc | hc
      · exact ih (u / 10) (by omega) c hc
      · rw [List.mem_singleton] at hc
        subst hc
        rw [dig_val (by omega)]; omega
theorem parse_dec (u : Nat) (r : List UInt8) (hu : u ≤ 18446744073709551615) : Lib.parseUintM 18446744073709551615 0 (Lib.decDigits u ++ r) = Lib.parseUintM 18446744073709551615 u r := by
  induction u using Nat.strongRecOn generalizing r with
  | ind u ih =>
    by_cases h : u < 10
    · rw [Lib.decDigits_one h, List.singleton_append, Lib.parseUintM, dig_val h, if_pos (by omega), if_neg (by omega), if_neg (by omega)]
      congr 1; omega
    · rw [dec_rec h, List.append_assoc, ih (u / 10) (by omega) _ (by omega), List.singleton_append, Lib.parseUintM, dig_val (by omega), if_pos (by omega), if_neg (by omega), if_neg (by omega)]
      congr 1; omega
def numOf (w : ByteArray) : Option Int := match Lib.parseIntB 64 w.data.toList with
  | .ok v => some v
  | _ => none
theorem of_itoa (n : Int) (h0 : -9223372036854775808 ≤ n) (h1 : n ≤ 9223372036854775807) : numOf (bs (Lib.itoa n)) = some n := by
  unfold numOf
  rw [show (bs (Lib.itoa n)).data.toList = Lib.itoa n from rfl]
  by_cases h : n < 0
  · have e := Lib.itoa_neg n.natAbs (by omega)
    rw [show -((n.natAbs : Nat) : Int) = n by omega] at e
    obtain ⟨c, r, e2, _⟩ := dec_head n.natAbs
    have hp := parse_dec n.natAbs [] (by omega)
    rw [List.append_nil] at hp
    have hu : Lib.parseUintB 64 (Lib.decDigits n.natAbs) = .ok n.natAbs := by
      unfold Lib.parseUintB
      rw [if_neg (by rw [e2]; exact List.cons_ne_nil _ _)]
      exact hp
    have : Lib.parseIntB 64 (Lib.itoa n) = .ok n := by
      rw [e]
      unfold Lib.parseIntB
      show (match Lib.parseUintB 64 (if (45 : UInt8).toNat = 43 ∨ (45 : UInt8).toNat = 45 then Lib.decDigits n.natAbs else 45 :: Lib.decDigits n.natAbs) with
        | .syntax => Lib.NumEnd.syntax
        | .range => .range
        | .ok u => if ¬ (45 : UInt8).toNat = 45 ∧ 2 ^ (64 - 1) ≤ u then .range else if (45 : UInt8).toNat = 45 ∧ 2 ^ (64 - 1) < u then .range else .ok (if (45 : UInt8).toNat = 45 then -(u : Int) else u)) = _
      rw [if_pos (by decide), hu]
      show (if _ then Lib.NumEnd.range else if _ then Lib.NumEnd.range else Lib.NumEnd.ok (if (45 : UInt8).toNat = 45 then -((n.natAbs : Nat) : Int) else n.natAbs)) = _
      rw [if_neg (fun hc => hc.1 rfl), if_neg (fun hc => by omega), if_pos (show (45 : UInt8).toNat = 45 from rfl)]
      congr 1; omega
    rw [this]
  · have e := Lib.itoa_nonneg n.toNat
    rw [show ((n.toNat : Nat) : Int) = n by omega] at e
    obtain ⟨c, r, e2, g1, g2, _⟩ := dec_head n.toNat
    have hp := parse_dec n.toNat [] (by omega)
    rw [List.append_nil] at hp
    have hu : Lib.parseUintB 64 (Lib.decDigits n.toNat) = .ok n.toNat := by
      unfold Lib.parseUintB
      rw [if_neg (by rw [e2]; exact List.cons_ne_nil _ _)]
      exact hp
    have : Lib.parseIntB 64 (Lib.itoa n) = .ok n := by
      rw [e]
      rw [e2] at hu ⊢
      unfold Lib.parseIntB
      show (match Lib.parseUintB 64 (if c.toNat = 43 ∨ c.toNat = 45 then r else c :: r) with
        | .syntax => Lib.NumEnd.syntax
        | .range => .range
        | .ok u => if ¬ c.toNat = 45 ∧ 2 ^ (64 - 1) ≤ u then .range else if c.toNat = 45 ∧ 2 ^ (64 - 1) < u then .range else .ok (if c.toNat = 45 then -(u : Int) else u)) = _
      rw [if_neg (by omega), hu]
      show (if _ then Lib.NumEnd.range else if _ then Lib.NumEnd.range else Lib.NumEnd.ok (if c.toNat = 45 then -((n.toNat : Nat) : Int) else n.toNat)) = _
      rw [if_neg (fun hc => by omega), if_neg (fun hc => by omega), if_neg (by omega)]
      congr 1; omega
    rw [this]
theorem itoa_plain (n : Int) : (32 : UInt8) ∉ Lib.itoa n := by
  intro hc
  have hd : ∀ u : Nat, (32 : UInt8) ∉ Lib.decDigits u := fun u h => absurd (dec_mem u _ h).1 (by decide)
  unfold Lib.itoa at hc
  split at hc
  · rcases List.mem_cons.1 hc with h | h
    · exact absurd h (by decide)
    · exact hd _ h
  · exact hd _ hc
def joinW : List (List UInt8) → List UInt8
  | [] => []
  | [w] => w
  | w :: x :: t => w ++ 32 :: joinW (x :: t)
def Plain (ws : List (List UInt8)) : Prop := ∀ w ∈ ws, (32 : UInt8) ∉ w
theorem byte_miss {w : List UInt8} (h : (32 : UInt8) ∉ w) : Lib.indexByte w 32 = -1 := by
  induction w with
  | nil => rfl
  | cons b l ih =>
    have hb : ¬ (b == 32) = true := fun e => h (by rw [eq_of_beq e]; exact List.mem_cons_self)
    rw [Lib.indexByte, if_neg hb, ih (fun e => h (List.mem_cons_of_mem _ e))]; rfl
theorem byte_hit {w : List UInt8} (r : List UInt8) (h : (32 : UInt8) ∉ w) : Lib.indexByte (w ++ 32 :: r) 32 = w.length := by
  induction w with
  | nil => rfl
  | cons b l ih =>
    have hb : ¬ (b == 32) = true := fun e => h (by rw [eq_of_beq e]; exact List.mem_cons_self)
    rw [List.cons_append, Lib.indexByte, if_neg hb, ih (fun e => h (List.mem_cons_of_mem _ e)), if_neg (by rw [beq_iff_eq]; omega)]
    rw [List.length_cons]; omega
theorem splitK_miss {w : List UInt8} (k : Nat) (h : (32 : UInt8) ∉ w) : Lib.splitK [32] 0 k w = [w] := by
  cases k with
  | zero => rfl
  | succ k => rw [Lib.splitK, Lib.index_one, byte_miss h, if_pos (by decide)]
theorem splitK_hit {w : List UInt8} (k : Nat) (r : List UInt8) (h : (32 : UInt8) ∉ w) : Lib.splitK [32] 0 (k + 1) (w ++ 32 :: r) = w :: Lib.splitK [32] 0 k r := by
  rw [Lib.splitK, Lib.index_one, byte_hit r h, if_neg (by rw [beq_iff_eq]; omega)]
  congr 1
  · rw [Int.toNat_natCast, Nat.add_zero, List.take_left']; rfl
  · rw [Int.toNat_natCast, show w.length + [(32 : UInt8)].length = w.length + 1 from rfl]
    rw [show (w ++ 32 :: r) = (w ++ [32]) ++ r by simp, List.drop_left' (by simp)]
theorem split_join : ∀ (ws : List (List UInt8)), ws ≠ [] → Plain ws → Lib.splitK [32] 0 (Lib.count (joinW ws) [32]) (joinW ws) = ws
  | [], h, _ => absurd rfl h
  | [w], _, hp => splitK_miss _ (hp w List.mem_cons_self)
  | w :: x :: t, _, hp => by
    have hw := hp w List.mem_cons_self
    rw [joinW, Lib.count_one, List.count_append, List.count_cons_self, List.count_eq_zero.2 hw, Nat.zero_add, ← Lib.count_one, splitK_hit _ _ hw, split_join (x :: t) (List.cons_ne_nil _ _) (fun y hy => hp y (List.mem_cons_of_mem _ hy))]
theorem bs_data (x : ByteArray) : bs x.data.toList = x := by
  obtain ⟨d⟩ := x
  show ByteArray.mk d.toList.toArray = _
  rw [Array.toArray_toList]
theorem words_join {s : ByteArray} {ws : List (List UInt8)} (h : s.data.toList = joinW ws) (hne : ws ≠ []) (hp : Plain ws) : wordsB s = ws.map bs := by
  have e : (wordsB s).map (·.data.toList) = ws := by
    rw [wordsB, Lib.splitB_data]
    show Lib.splitK [32] 0 (Lib.count s.data.toList [32]) s.data.toList = ws
    rw [h, split_join ws hne hp]
  rw [← e, List.map_map]
  conv => lhs; rw [← List.map_id (wordsB s)]
  exact List.map_congr_left fun x _ => (bs_data x).symm
theorem app_data (x y : ByteArray) : (x ++ y).data.toList = x.data.toList ++ y.data.toList := by
  rw [ByteArray.data_append, Array.toList_append]
theorem num_data (n : Int) : (numB n).data.toList = Lib.itoa n := rfl
theorem bs_list (l : List UInt8) : (bs l).data.toList = l := rfl
theorem join_W : ∀ (w : List UInt8) (r : List (List UInt8)), Lib.join (w :: r) [32] = joinW (w :: r)
  | w, [] => Lib.join_one w [32]
  | w, x :: t => by
    have ih := join_W x t
    rw [Lib.join_cons] at ih ⊢
    show w ++ ([32] ++ x ++ Lib.joinTail [32] t) = w ++ 32 :: joinW (x :: t)
    rw [← ih, List.append_assoc]; rfl
theorem join_data {w : ByteArray} {r : List ByteArray} : (joinB (w :: r)).data.toList = joinW ((w :: r).map (·.data.toList)) := by
  show Lib.join ((w :: r).map (·.data.toList)) [32] = _
  rw [List.map_cons, join_W]
theorem map_bs (l : List ByteArray) : (l.map (·.data.toList)).map bs = l := by
  rw [List.map_map]
  conv => rhs; rw [← List.map_id l]
  exact List.map_congr_left fun x _ => bs_data x
theorem line_data (m : Mo) : (lineF m).data.toList = joinW ((wsT m).map (·.data.toList)) := join_data
def PlainB (w : ByteArray) : Prop := (32 : UInt8) ∉ w.data.toList
theorem name_plain {s : ByteArray} (h : NameP s) : PlainB s := by
  intro hm
  obtain ⟨k, hk, e⟩ := List.mem_iff_getElem.1 hm
  have hs : s.data.toList.length = s.size := Array.length_toList
  have h1 := h.2 k (by omega)
  have h2 : byteAt s k = 32 := by
    show ((s.data.toList.getD k 0).toNat : Int) = 32
    rw [List.getD_eq_getElem?_getD, List.getElem?_eq_getElem hk]
    show ((s.data.toList[k].toNat : Nat) : Int) = 32
    rw [e]; rfl
  rw [h2] at h1
  unfold okN at h1
  omega
theorem num_plain (n : Int) : PlainB (numB n) := itoa_plain n
theorem why_plain (k : Nat) : PlainB (whyL.getD k ⟨#[]⟩) := by
  match k with
  | 0 | 1 | 2 | 3 => unfold PlainB; decide
  | k + 4 => unfold PlainB; exact List.not_mem_nil
theorem kind_plain (k : Nat) : PlainB (kindL.getD k ⟨#[]⟩) := by
  match k with
  | 0 | 1 | 2 | 3 | 4 | 5 => unfold PlainB; decide
  | k + 6 => unfold PlainB; exact List.not_mem_nil
theorem fit_kind {m : Mo} (h : FitM m) : m.kind = 1 ∨ m.kind = 2 ∨ m.kind = 3 ∨ m.kind = 4 ∨ m.kind = 5 ∨ m.kind = 6 := by
  obtain ⟨-, h⟩ := h
  unfold EvP at h
  omega
theorem ws_plain {m : Mo} (h : FitM m) : ∀ w ∈ wsT m, PlainB w := by
  have hn : (m.kind = 3 ∨ m.kind = 4 ∨ m.kind = 5) → NameP m.name := fun hk => by
    obtain ⟨-, h⟩ := h
    rcases h with ⟨a, b, c, d⟩ | ⟨a, b, c, d⟩ | ⟨a, b, c, d⟩ | ⟨a, b, c, d⟩ | ⟨a, b, c, d⟩ | ⟨a, b, c, d⟩ <;> first | exact c | (exfalso; omega)
  have pc : ∀ {l : List UInt8}, (32 : UInt8) ∉ l → PlainB (bs l) := fun h => h
  intro w hw
  unfold wsT restT at hw
  rcases List.mem_cons.1 hw with rfl | hw
  · exact num_plain _
  rcases List.mem_cons.1 hw with rfl | hw
  · exact num_plain _
  rcases fit_kind h with e | e | e | e | e | e <;> simp only [e, reduceIte, show ¬ ((2 : Int) = 1) by decide, show ¬ ((3 : Int) = 1) by decide, show ¬ ((3 : Int) = 2) by decide, show ¬ ((4 : Int) = 1) by decide, show ¬ ((4 : Int) = 2) by decide, show ¬ ((4 : Int) = 3) by decide, show ¬ ((5 : Int) = 1) by decide, show ¬ ((5 : Int) = 2) by decide, show ¬ ((5 : Int) = 3) by decide, show ¬ ((5 : Int) = 4) by decide, show ¬ ((6 : Int) = 1) by decide, show ¬ ((6 : Int) = 2) by decide, show ¬ ((6 : Int) = 3) by decide, show ¬ ((6 : Int) = 4) by decide, show ¬ ((6 : Int) = 5) by decide, List.mem_cons, List.not_mem_nil, or_false] at hw
  · rcases hw with rfl | rfl | rfl | rfl
    · exact pc (by decide)
    · exact num_plain _
    · exact pc (by decide)
    · exact num_plain _
  · rcases hw with rfl | rfl | rfl | rfl
    · exact pc (by decide)
    · exact num_plain _
    · exact pc (by decide)
    · exact why_plain _
  · rcases hw with rfl | rfl | rfl | rfl
    · exact pc (by decide)
    · exact num_plain _
    · exact name_plain (hn (by omega))
    · exact num_plain _
  · rcases hw with rfl | rfl | rfl
    · exact pc (by decide)
    · exact num_plain _
    · exact name_plain (hn (by omega))
  · rcases hw with rfl | rfl | rfl | rfl
    · exact pc (by decide)
    · exact name_plain (hn (by omega))
    · exact pc (by decide)
    · exact num_plain _
  · rcases hw with rfl | rfl | rfl
    · exact pc (by decide)
    · exact num_plain _
    · exact kind_plain _
theorem line_words {m : Mo} (h : FitM m) : wordsB (lineF m) = wsT m := by
  have := words_join (s := lineF m) (ws := (wsT m).map (·.data.toList)) (line_data m) (by simp [wsT]) (fun w hw => by
    obtain ⟨x, hx, rfl⟩ := List.mem_map.1 hw
    exact ws_plain h x hx)
  rw [this, map_bs]
end Go.Proofs.YtkfbaeljcajjbaaGreatDoor

/- A line read, as the program does: plain lists. -/
namespace Go.Proofs.YtkfbaeljcajjbaaGreatDoor
open Go.RowKit Go.Dl
/-- A reader: the words that are left, and whether it went wrong. -/
abbrev RS := List ByteArray × Bool
def wordR (r : RS) : ByteArray × RS := (r.1.getD 0 ⟨#[]⟩, r.1.drop 1, r.2 || r.1.isEmpty)
def pv (w : ByteArray) : Int := match Lib.parseIntB 64 w.data.toList with
  | .ok v => v
  | .range => Lib.intSat 64 w.data.toList
  | _ => 0
def pb (w : ByteArray) : Bool := match Lib.parseIntB 64 w.data.toList with
  | .ok _ => false
  | _ => true
def numR (r : RS) : Int × RS := (pv (wordR r).1, (wordR r).2.1, (wordR r).2.2 || pb (wordR r).1)
def idxS (w : ByteArray) : List ByteArray → Nat → Int
  | [], _ => -1
  | y :: t, i => if (w == y) = true then i else idxS w t (i + 1)
def ofR (r : RS) (L : List ByteArray) : Int × RS := (idxS (wordR r).1 L 0, (wordR r).2.1, (wordR r).2.2 || decide (idxS (wordR r).1 L 0 < 1))
def peerR (w : ByteArray) (r : RS) : Int × RS := if w = bs cLearned then (0, r) else numR r
def evR (w : ByteArray) (r : RS) : Int × ByteArray × Int × RS :=
  if w = bs cHeld then (1, ⟨#[]⟩, numR (wordR r).2)
  else if w = bs cDropped then (2, ⟨#[]⟩, ofR (wordR r).2 whyL)
  else if w = bs cBalanced then (3, (wordR r).1, numR (wordR r).2)
  else if w = bs cRange then (4, (wordR r).1, 0, (wordR r).2)
  else if w = bs cLearned then (5, (wordR r).1, numR (wordR (wordR r).2).2)
  else if w = bs cIgnored then (6, ⟨#[]⟩, ofR r kindL)
  else (0, ⟨#[]⟩, 0, r)
def aR (s : ByteArray) : Int × RS := numR (wordsB s, false)
def bR (s : ByteArray) : Int × RS := numR (aR s).2
def wR (s : ByteArray) : ByteArray × RS := wordR (bR s).2
def pR (s : ByteArray) : Int × RS := peerR (wR s).1 (wR s).2
def eR (s : ByteArray) : Int × ByteArray × Int × RS := evR (wR s).1 (pR s).2
def momR (s : ByteArray) : Mo := ⟨(aR s).1, (bR s).1, (eR s).1, (pR s).1, (eR s).2.1, (eR s).2.2.1⟩
def badR (s : ByteArray) : Bool := (eR s).2.2.2.2
def readT (s : ByteArray) : Mo × Int := if badR s = true ∨ lineT (momR s) ≠ s ∨ s = ⟨#[]⟩ then (mo0, 20) else (momR s, 0)
theorem pv_itoa {n : Int} (h : I64 n) : pv (numB n) = n ∧ pb (numB n) = false := by
  have h1 := of_itoa n h.1 h.2
  unfold numOf at h1
  unfold pv pb
  rw [show numB n = bs (Lib.itoa n) from rfl]
  cases e : Lib.parseIntB 64 (bs (Lib.itoa n)).data.toList with
  | ok v => rw [e] at h1; cases h1; exact ⟨rfl, rfl⟩
  | _ => rw [e] at h1; cases h1
theorem word_cons (w : ByteArray) (t : List ByteArray) (b : Bool) : wordR (w :: t, b) = (w, t, b) := by
  show (w, t, b || false) = (w, t, b)
  rw [Bool.or_false]
theorem num_cons {n : Int} (h : I64 n) (t : List ByteArray) : numR (numB n :: t, false) = (n, t, false) := by
  obtain ⟨h1, h2⟩ := pv_itoa h
  unfold numR
  rw [word_cons, h1, h2]; rfl
theorem why_cons {k : Int} (h : 1 ≤ k ∧ k ≤ 3) (t : List ByteArray) : ofR (whyL.getD k.toNat ⟨#[]⟩ :: t, false) whyL = (k, t, false) := by
  have hk : k = 1 ∨ k = 2 ∨ k = 3 := by omega
  unfold ofR
  rw [word_cons]
  rcases hk with rfl | rfl | rfl <;> rfl
theorem kind_cons {k : Int} (h : 1 ≤ k ∧ k ≤ 5) (t : List ByteArray) : ofR (kindL.getD k.toNat ⟨#[]⟩ :: t, false) kindL = (k, t, false) := by
  have hk : k = 1 ∨ k = 2 ∨ k = 3 ∨ k = 4 ∨ k = 5 := by omega
  unfold ofR
  rw [word_cons]
  rcases hk with rfl | rfl | rfl | rfl | rfl <;> rfl
theorem nd_i64 {n : Int} (h : nd n) : I64 n := by unfold nd at h; unfold I64; omega
theorem fit_line {m : Mo} (h : FitM m) : lineT m = lineF m := if_pos (decide_eq_true h)
theorem line_ne (m : Mo) : lineF m ≠ ⟨#[]⟩ := fun e => by
  have h := line_data m
  rw [e] at h
  have h2 := congrArg List.length h
  unfold wsT at h2
  simp [joinW, restT] at h2
/-- The parts of what is fit. -/
inductive Shape (m : Mo) : Prop
  | held (h : m.kind = 1 ∧ nd m.peer ∧ m.name = ⟨#[]⟩ ∧ 1 ≤ m.num) : Shape m
  | dropped (h : m.kind = 2 ∧ nd m.peer ∧ m.name = ⟨#[]⟩ ∧ (1 ≤ m.num ∧ m.num ≤ 3)) : Shape m
  | balanced (h : m.kind = 3 ∧ nd m.peer ∧ NameP m.name ∧ m.num ≠ 0) : Shape m
  | range (h : m.kind = 4 ∧ nd m.peer ∧ NameP m.name ∧ m.num = 0) : Shape m
  | learned (h : m.kind = 5 ∧ m.peer = 0 ∧ NameP m.name ∧ 1 ≤ m.num) : Shape m
  | ignored (h : m.kind = 6 ∧ nd m.peer ∧ m.name = ⟨#[]⟩ ∧ (1 ≤ m.num ∧ m.num ≤ 5)) : Shape m
theorem fit_shape {m : Mo} (h : FitM m) : Shape m := by
  rcases h.2 with h | h | h | h | h | h
  · exact .held h
  · exact .dropped h
  · exact .balanced h
  · exact .range h
  · exact .learned h
  · exact .ignored h
theorem rest_1 {m : Mo} (h : m.kind = 1) : restT m = [bs cHeld, numB m.peer, bs cBoot, numB m.num] := if_pos h
theorem rest_2 {m : Mo} (h : m.kind = 2) : restT m = [bs cDropped, numB m.peer, bs cBy, whyL.getD m.num.toNat ⟨#[]⟩] := by unfold restT; rw [if_neg (by omega), if_pos h]
theorem rest_3 {m : Mo} (h : m.kind = 3) : restT m = [bs cBalanced, numB m.peer, m.name, numB m.num] := by unfold restT; rw [if_neg (by omega), if_neg (by omega), if_pos h]
theorem rest_4 {m : Mo} (h : m.kind = 4) : restT m = [bs cRange, numB m.peer, m.name] := by unfold restT; rw [if_neg (by omega), if_neg (by omega), if_neg (by omega), if_pos h]
theorem rest_5 {m : Mo} (h : m.kind = 5) : restT m = [bs cLearned, m.name, bs cEpoch, numB m.num] := by unfold restT; rw [if_neg (by omega), if_neg (by omega), if_neg (by omega), if_neg (by omega), if_pos h]
theorem rest_6 {m : Mo} (h : m.kind = 6) : restT m = [bs cIgnored, numB m.peer, kindL.getD m.num.toNat ⟨#[]⟩] := by unfold restT; rw [if_neg (by omega), if_neg (by omega), if_neg (by omega), if_neg (by omega), if_neg (by omega)]
theorem peer_num {w : ByteArray} {n : Int} (h : w ≠ bs cLearned) (hn : I64 n) (t : List ByteArray) : peerR w (numB n :: t, false) = (n, t, false) := by rw [peerR, if_neg h, num_cons hn]
theorem ev_1 (r : RS) : evR (bs cHeld) r = (1, ⟨#[]⟩, numR (wordR r).2) := if_pos rfl
theorem ev_2 (r : RS) : evR (bs cDropped) r = (2, ⟨#[]⟩, ofR (wordR r).2 whyL) := by unfold evR; rw [if_neg (by decide), if_pos rfl]
theorem ev_3 (r : RS) : evR (bs cBalanced) r = (3, (wordR r).1, numR (wordR r).2) := by unfold evR; rw [if_neg (by decide), if_neg (by decide), if_pos rfl]
theorem ev_4 (r : RS) : evR (bs cRange) r = (4, (wordR r).1, 0, (wordR r).2) := by unfold evR; rw [if_neg (by decide), if_neg (by decide), if_neg (by decide), if_pos rfl]
theorem ev_5 (r : RS) : evR (bs cLearned) r = (5, (wordR r).1, numR (wordR (wordR r).2).2) := by unfold evR; rw [if_neg (by decide), if_neg (by decide), if_neg (by decide), if_neg (by decide), if_pos rfl]
theorem ev_6 (r : RS) : evR (bs cIgnored) r = (6, ⟨#[]⟩, ofR r kindL) := by unfold evR; rw [if_neg (by decide), if_neg (by decide), if_neg (by decide), if_neg (by decide), if_neg (by decide), if_pos rfl]
theorem mom_line {m : Mo} (h : FitM m) (hi : I6 m) : momR (lineF m) = m ∧ badR (lineF m) = false := by
  have hw := line_words h
  have ha : aR (lineF m) = (m.step, numB m.node :: restT m, false) := by unfold aR; rw [hw]; exact num_cons hi.1 _
  have hb : bR (lineF m) = (m.node, restT m, false) := by unfold bR; rw [ha]; exact num_cons (nd_i64 h.1.2) _
  obtain ⟨st, no, k, pe, na, nu⟩ := m
  unfold momR badR eR pR wR
  rcases fit_shape h with hs | hs | hs | hs | hs | hs
  · rw [rest_1 hs.1] at hb
    obtain ⟨e1, e2, e3, e4⟩ := hs
    rw [hb]; simp only [word_cons, ha]; rw [peer_num (by decide) (nd_i64 e2)]; simp only [ev_1, word_cons, num_cons hi.2]
    simp only at e1 e3; subst e1; subst e3; exact ⟨rfl, by first | rfl | trivial⟩
  · rw [rest_2 hs.1] at hb
    obtain ⟨e1, e2, e3, e4⟩ := hs
    rw [hb]; simp only [word_cons, ha]; rw [peer_num (by decide) (nd_i64 e2)]; simp only [ev_2, word_cons, why_cons e4]
    simp only at e1 e3; subst e1; subst e3; exact ⟨rfl, by first | rfl | trivial⟩
  · rw [rest_3 hs.1] at hb
    obtain ⟨e1, e2, e3, e4⟩ := hs
    rw [hb]; simp only [word_cons, ha]; rw [peer_num (by decide) (nd_i64 e2)]; simp only [ev_3, word_cons, num_cons hi.2]
    simp only at e1; subst e1; exact ⟨rfl, by first | rfl | trivial⟩
  · rw [rest_4 hs.1] at hb
    obtain ⟨e1, e2, e3, e4⟩ := hs
    rw [hb]; simp only [word_cons, ha]; rw [peer_num (by decide) (nd_i64 e2)]; simp only [ev_4, word_cons]
    simp only at e1 e4; subst e1; subst e4; exact ⟨rfl, by first | rfl | trivial⟩
  · rw [rest_5 hs.1] at hb
    obtain ⟨e1, e2, e3, e4⟩ := hs
    rw [hb]; simp only [word_cons, ha]; rw [show peerR (bs cLearned) ([na, bs cEpoch, numB nu], false) = (0, [na, bs cEpoch, numB nu], false) from if_pos rfl]; simp only [ev_5, word_cons, num_cons hi.2]
    simp only at e1 e2; subst e1; subst e2; exact ⟨rfl, by first | rfl | trivial⟩
  · rw [rest_6 hs.1] at hb
    obtain ⟨e1, e2, e3, e4⟩ := hs
    rw [hb]; simp only [word_cons, ha]; rw [peer_num (by decide) (nd_i64 e2)]; simp only [ev_6, kind_cons e4]
    simp only at e1 e3; subst e1; subst e3; exact ⟨rfl, by first | rfl | trivial⟩
/-- What is written is read. -/
theorem P1 {m : Mo} (h : FitM m) (hi : I6 m) : readT (lineF m) = (m, 0) := by
  obtain ⟨h1, h2⟩ := mom_line h hi
  unfold readT
  rw [h1, h2, fit_line h, if_neg]
  rintro (hc | hc | hc)
  · cases hc
  · exact hc rfl
  · exact line_ne m hc
theorem line_fit {m : Mo} {s : ByteArray} (h : lineT m = s) (hs : s ≠ ⟨#[]⟩) : FitM m ∧ lineF m = s := by
  unfold lineT at h
  split at h
  · rename_i hf
    exact ⟨of_decide_eq_true hf, h⟩
  · exact absurd h.symm hs
theorem pv_i64 (w : ByteArray) : pb w = false → I64 (pv w) := by
  unfold pb pv
  cases e : Lib.parseIntB 64 w.data.toList with
  | ok v =>
    intro _
    rw [Lib.parseIntB_64] at e
    exact Lib.atoiAll_bounds e
  | _ => intro h; cases h
end Go.Proofs.YtkfbaeljcajjbaaGreatDoor

/- What the reader knows: small words, numbers within their range. -/
namespace Go.Proofs.YtkfbaeljcajjbaaGreatDoor
open Go.RowKit Go.Dl
def Wsz (n : Nat) (r : RS) : Prop := ∀ x ∈ r.1, x.size ≤ n
theorem wsz_word {n : Nat} {r : RS} (h : Wsz n r) : (wordR r).1.size ≤ n ∧ Wsz n (wordR r).2 := by
  obtain ⟨ws, b⟩ := r
  cases ws with
  | nil => exact ⟨Nat.zero_le _, fun x hx => absurd hx List.not_mem_nil⟩
  | cons w t => exact ⟨h w List.mem_cons_self, fun x hx => h x (List.mem_cons_of_mem _ hx)⟩
theorem wsz_num {n : Nat} {r : RS} (h : Wsz n r) : Wsz n (numR r).2 := (wsz_word h).2
theorem words_size (sep : ByteArray) (sv : Nat) (k : Nat) : ∀ s : ByteArray, ∀ x ∈ Lib.splitB sep sv k s, x.size ≤ s.size := by
  induction k with
  | zero => intro s x hx; rw [Lib.splitB_zero, List.mem_singleton] at hx; subst hx; exact Nat.le_refl _
  | succ k ih =>
    intro s x hx
    unfold Lib.splitB at hx
    split at hx
    · rw [List.mem_singleton] at hx; subst hx; exact Nat.le_refl _
    · rcases List.mem_cons.1 hx with rfl | hx
      · rw [ByteArray.size_extract]; omega
      · have := ih _ _ hx
        rw [ByteArray.size_extract] at this; omega
theorem wsz_all (s : ByteArray) : Wsz s.size (wordsB s, false) := fun _ hx => words_size _ _ _ _ _ hx
theorem word_bad {r : RS} (h : (wordR r).2.2 = false) : r.2 = false := by
  have : (r.2 || r.1.isEmpty) = false := h
  exact (Bool.or_eq_false_iff.1 this).1
theorem num_bad {r : RS} (h : (numR r).2.2 = false) : r.2 = false ∧ I64 (numR r).1 := by
  have : ((wordR r).2.2 || pb (wordR r).1) = false := h
  obtain ⟨h1, h2⟩ := Bool.or_eq_false_iff.1 this
  exact ⟨word_bad h1, pv_i64 _ h2⟩
theorem idx_i64 (w : ByteArray) : ∀ (L : List ByteArray) (i : Nat), -1 ≤ idxS w L i ∧ idxS w L i ≤ i + L.length
  | [], i => by unfold idxS; simp only [List.length_nil]; omega
  | y :: t, i => by
    unfold idxS
    split
    · rw [List.length_cons]; omega
    · have := idx_i64 w t (i + 1)
      rw [List.length_cons]; omega
theorem of_bad2 {r : RS} {L : List ByteArray} (hL : L.length ≤ 100) (h : (ofR r L).2.2 = false) : r.2 = false ∧ I64 (ofR r L).1 := by
  have : ((wordR r).2.2 || decide (idxS (wordR r).1 L 0 < 1)) = false := h
  obtain ⟨h1, h2⟩ := Bool.or_eq_false_iff.1 this
  have h3 := idx_i64 (wordR r).1 L 0
  refine ⟨word_bad h1, ?_⟩
  show I64 (idxS (wordR r).1 L 0)
  unfold I64
  omega
def resB (m : Mo) (b : Bool) (s : ByteArray) : Mo × Int := if b = true ∨ lineT m ≠ s ∨ s = ⟨#[]⟩ then (mo0, 20) else (m, 0)
theorem read_res (s : ByteArray) : readT s = resB (momR s) (badR s) s := rfl
theorem res_err {m : Mo} {b : Bool} {s : ByteArray} (h : (bif bif b then true else lineT m != s then true else s == ⟨#[]⟩) = true) : resB m b s = (mo0, 20) := by
  unfold resB
  refine if_pos ?_
  cases b with
  | true => exact .inl rfl
  | false =>
    by_cases e : lineT m = s
    · refine .inr (.inr ?_)
      have hn : (lineT m != s) = false := by rw [e]; simp [bne, ba_eq.2 rfl]
      have h : (bif lineT m != s then true else s == ⟨#[]⟩) = true := h
      rw [hn] at h
      exact ba_eq.1 h
    · exact .inr (.inl e)
theorem res_ok {m : Mo} {b : Bool} {s : ByteArray} (h : (bif bif b then true else lineT m != s then true else s == ⟨#[]⟩) = false) : resB m b s = (m, 0) := by
  unfold resB
  refine if_neg ?_
  cases b with
  | true => cases h
  | false =>
    have h : (bif lineT m != s then true else s == ⟨#[]⟩) = false := h
    cases hn : (lineT m != s)
    · rw [hn] at h
      have h : (s == ⟨#[]⟩) = false := h
      have e : lineT m = s := by
        have : (lineT m == s) = true := by simpa [bne] using hn
        exact ba_eq.1 this
      rintro (hc | hc | hc)
      · cases hc
      · exact hc e
      · rw [hc, show ((ByteArray.mk #[]) == (ByteArray.mk #[])) = true from ba_eq.2 rfl] at h; cases h
    · rw [hn] at h; cases h
end Go.Proofs.YtkfbaeljcajjbaaGreatDoor

/- Moments that fit. -/
namespace Go.Proofs.YtkfbaeljcajjbaaGreatDoor
open Go.RowKit Go.Dl
attribute [local irreducible] Tri SCall TSem ECall Drawn DFun QSem PSem PCall GCall MCall Round Weak dloadE OW DWl Tells IntKind.wrap Retold ESem
def u8 (x : Int) : DV := .v (.int .u8 x)
theorem node30_D (n : Int) : DPure Tryz.prog 30 [int1 n] (bl (decide (nd n))) := by
  refine DFun.data (DFun.body Tryz.func30 rfl (by kernel_rfl) ?_)
  repeat' (first | with_reducible rfl | ((conv => whnf); first | refine And.intro ?_ ?_ | (intro h; first | with_reducible exact tf_no h | with_reducible exact ft_no h | exact Bool.noConfusion h | with_reducible exact h | (have ht : true = true := h; clear ht h) | skip) | ((with_reducible refine DWl.mark ?_); repeat' (first | refine DWl.cons ?_ ?_ | exact DWl.nil | exact DW.same _ rfl | exact DW.ref _ _ _ rfl | exact DW.arr _ _ _ rfl | exact DW.sub _ _ _ _ rfl | exact DW.nilLst _ | refine DW.aggl ?_ | refine DW.tupl ?_ | refine DW.clol ?_ ?_ | refine DW.int ?_ | refine DW.bool ?_ | refine DW.str ?_)) | ((with_reducible refine ECall.mark ?_); first | refine ECall.only ?_ (fun h => nomatch h) | refine ECall.only ?_ ?_) | ((with_reducible refine Drawn.mark ?_); first | refine Drawn.quiet (by kernel_rfl) ?_) | refine dcell_ok rfl ?_ | refine AppC.new ?_))
  all_goals first | (with_reducible refine enters_mark ?_; kernel_rfl) | (with_reducible refine boolT_mark ?_; kernel_rfl) | rfl | trivial | assumption | exact Nat.le_of_ble_eq_true rfl | (show entersB _ _ = true; kernel_rfl) | exact DW.same _ rfl | exact DW.ref _ _ _ rfl | exact DW.arr _ _ _ rfl | refine DW.int ?_ | refine dvb ?_ | refine dvi ?_ | exact OW.cells rfl rfl (DWl.same rfl) | exact Nat.zero_le _ | omega | skip
  all_goals repeat' (first | refine OW.cells rfl rfl ?_ | exact DW.nilArr _ rfl | refine DWl.cons ?_ ?_ | exact DWl.nil | exact DW.same _ rfl | exact DW.ref _ _ _ rfl | exact DW.arr _ _ _ rfl | exact DW.sub _ _ _ _ rfl | exact DW.nilLst _ | refine DW.aggl ?_ | refine DW.tupl ?_ | refine DW.clol ?_ ?_)
  all_goals try ((conv => whnf); with_reducible first | refine Round.mark ?_ | refine Tells.mark ?_ | refine Retold.mark ?_)
  all_goals try first | (show (_ : Bool) = _; simp_all; done) | (show (_ : Int) < _; simp at *; omega) | (show (_ : Int) ≤ _; simp at *; omega) | (show (_ : Nat) < _; simp at *; omega) | (show (_ : Nat) ≤ _; simp at *; omega)
  all_goals (conv => whnf)
  all_goals refine Tells.mk (DW.bool ?_)
  all_goals (rw [Bool.eq_iff_iff, decide_eq_true_iff]; unfold nd; simp at *; try omega)
theorem node33_D (n : Int) : DPure Tryz.prog 33 [int1 n] (bl (decide (nd n))) := by
  refine DFun.data (DFun.body Tryz.func33 rfl (by kernel_rfl) ?_)
  repeat' (first | with_reducible rfl | ((conv => whnf); first | refine And.intro ?_ ?_ | (intro h; first | with_reducible exact tf_no h | with_reducible exact ft_no h | exact Bool.noConfusion h | with_reducible exact h | (have ht : true = true := h; clear ht h) | skip) | ((with_reducible refine DWl.mark ?_); repeat' (first | refine DWl.cons ?_ ?_ | exact DWl.nil | exact DW.same _ rfl | exact DW.ref _ _ _ rfl | exact DW.arr _ _ _ rfl | exact DW.sub _ _ _ _ rfl | exact DW.nilLst _ | refine DW.aggl ?_ | refine DW.tupl ?_ | refine DW.clol ?_ ?_ | refine DW.int ?_ | refine DW.bool ?_ | refine DW.str ?_)) | ((with_reducible refine ECall.mark ?_); first | refine ECall.only ?_ (fun h => nomatch h) | refine ECall.only ?_ ?_) | ((with_reducible refine Drawn.mark ?_); first | refine Drawn.quiet (by kernel_rfl) ?_) | refine dcell_ok rfl ?_ | refine AppC.new ?_))
  all_goals first | (with_reducible refine enters_mark ?_; kernel_rfl) | (with_reducible refine boolT_mark ?_; kernel_rfl) | rfl | trivial | assumption | exact Nat.le_of_ble_eq_true rfl | (show entersB _ _ = true; kernel_rfl) | exact DW.same _ rfl | exact DW.ref _ _ _ rfl | exact DW.arr _ _ _ rfl | refine DW.int ?_ | refine dvb ?_ | refine dvi ?_ | exact OW.cells rfl rfl (DWl.same rfl) | exact Nat.zero_le _ | omega | skip
  all_goals repeat' (first | refine OW.cells rfl rfl ?_ | exact DW.nilArr _ rfl | refine DWl.cons ?_ ?_ | exact DWl.nil | exact DW.same _ rfl | exact DW.ref _ _ _ rfl | exact DW.arr _ _ _ rfl | exact DW.sub _ _ _ _ rfl | exact DW.nilLst _ | refine DW.aggl ?_ | refine DW.tupl ?_ | refine DW.clol ?_ ?_)
  all_goals try ((conv => whnf); with_reducible first | refine Round.mark ?_ | refine Tells.mark ?_ | refine Retold.mark ?_)
  all_goals try first | (show (_ : Bool) = _; simp_all; done) | (show (_ : Int) < _; simp at *; omega) | (show (_ : Int) ≤ _; simp at *; omega) | (show (_ : Nat) < _; simp at *; omega) | (show (_ : Nat) ≤ _; simp at *; omega)
  all_goals (conv => whnf)
  all_goals refine Tells.mk (DW.bool ?_)
  all_goals (rw [Bool.eq_iff_iff, decide_eq_true_iff]; unfold nd; simp at *; try omega)
def NmI (s : ByteArray) (k : Nat) : Prop := k ≤ s.size ∧ ∀ i, i < k → okN (byteAt s i)
def nm32 (s : ByteArray) (k : Nat) : St := ⟨0, tmOf [(0, strV s), (14, int1 s.size), (15, int1 k)], .of [] 0⟩
def nm34 (s : ByteArray) (k : Nat) : St := ⟨0, tmOf [(0, strV s), (3, int1 k)], .of [] 0⟩
def badC (b : Int) : Bool := bif bif bif decide (b < 97) then true else decide (122 < b) then bif decide (b < 48) then true else decide (57 < b) else false then b != 95 else false
theorem badC_iff {b : Int} : badC b = false ↔ okN b := by
  unfold badC okN
  by_cases h1 : b < 97 <;> by_cases h2 : 122 < b <;> by_cases h3 : b < 48 <;> by_cases h4 : 57 < b <;> by_cases h5 : b = 95 <;> simp [h1, h2, h3, h4, h5] <;> omega
theorem nm_size {s : ByteArray} (h : (bif decide ((s.size : Int) < 1) then true else decide (16 < (s.size : Int))) = true) : nameB s = false := by
  refine decide_eq_false fun hc => ?_
  have := hc.1
  simp at h; omega
theorem nm_in {s : ByteArray} (h : (bif decide ((s.size : Int) < 1) then true else decide (16 < (s.size : Int))) = false) : 1 ≤ s.size ∧ s.size ≤ 16 := by simp at h; omega
theorem nm_bad {s : ByteArray} {k : Nat} (hk : k < s.size) (h : badC (byteAt s k) = true) : nameB s = false := by
  refine decide_eq_false fun hc => ?_
  rw [badC_iff.2 (hc.2 k hk)] at h; cases h
theorem nm_next {s : ByteArray} {k : Nat} (hi : NmI s k) (hk : k < s.size) (h : badC (byteAt s k) = false) : NmI s (k + 1) := by
  refine ⟨hk, fun i h1 => ?_⟩
  by_cases e : i = k
  · subst e; exact badC_iff.1 h
  · exact hi.2 i (by omega)
theorem nm_end {s : ByteArray} {k : Nat} (hi : NmI s k) (h : s.size ≤ k) : nameB s = decide (1 ≤ s.size ∧ s.size ≤ 16) := by
  have hk : k = s.size := by have := hi.1; omega
  subst hk
  rw [Bool.eq_iff_iff, decide_eq_true_iff]
  exact ⟨fun h => (of_decide_eq_true h).1, fun h => decide_eq_true ⟨h, hi.2⟩⟩
theorem nm_both {s : ByteArray} : (bif decide (1 ≤ (s.size : Int)) then decide ((s.size : Int) ≤ 16) else false) = decide (1 ≤ s.size ∧ s.size ≤ 16) := by
  rw [Bool.eq_iff_iff, decide_eq_true_iff]
  simp
  omega
attribute [local irreducible] byteAt okN
set_option maxRecDepth 20000 in
theorem name32_D (s : ByteArray) (hs : s.size ≤ 9223372036854775807) : DPure Tryz.prog 32 [strV s] (bl (nameB s)) := by
  refine DFun.data (DFun.body Tryz.func32 rfl (by kernel_rfl) ?_)
  repeat' (first | with_reducible rfl | ((conv => whnf); first | refine And.intro ?_ ?_ | (intro h; first | with_reducible exact tf_no h | with_reducible exact ft_no h | exact Bool.noConfusion h | with_reducible exact h | (have ht : true = true := h; clear ht h) | skip) | ((with_reducible refine DWl.mark ?_); repeat' (first | refine DWl.cons ?_ ?_ | exact DWl.nil | exact DW.same _ rfl | exact DW.ref _ _ _ rfl | exact DW.arr _ _ _ rfl | exact DW.sub _ _ _ _ rfl | exact DW.nilLst _ | refine DW.aggl ?_ | refine DW.tupl ?_ | refine DW.clol ?_ ?_ | refine DW.int ?_ | refine DW.bool ?_ | refine DW.str ?_)) | ((with_reducible refine Tri.mark ?_); first | (refine Tri.at (15) (int1 0) (by rfl) ?_; refine Tri.loop (nm32 s) (NmI s) (fun k => s.size - k) (0) (by kernel_rfl) (Weak.list [] [] ?_ ?_ ?_) ?_ ?_)) | ((with_reducible refine ECall.mark ?_); first | refine ECall.only ?_ (fun h => nomatch h) | refine ECall.only ?_ ?_) | ((with_reducible refine Drawn.mark ?_); first | refine Drawn.quiet (by kernel_rfl) ?_) | refine dcell_ok rfl ?_ | refine AppC.new ?_))
  all_goals first | (with_reducible refine enters_mark ?_; kernel_rfl) | (with_reducible refine boolT_mark ?_; kernel_rfl) | rfl | trivial | assumption | exact Nat.le_of_ble_eq_true rfl | (show entersB _ _ = true; kernel_rfl) | exact DW.same _ rfl | exact DW.ref _ _ _ rfl | exact DW.arr _ _ _ rfl | refine DW.int ?_ | refine dvb ?_ | refine dvi ?_ | exact OW.cells rfl rfl (DWl.same rfl) | exact Nat.zero_le _ | omega | skip
  all_goals repeat' (first | refine OW.cells rfl rfl ?_ | exact DW.nilArr _ rfl | refine DWl.cons ?_ ?_ | exact DWl.nil | exact DW.same _ rfl | exact DW.ref _ _ _ rfl | exact DW.arr _ _ _ rfl | exact DW.sub _ _ _ _ rfl | exact DW.nilLst _ | refine DW.aggl ?_ | refine DW.tupl ?_ | refine DW.clol ?_ ?_)
  all_goals try ((conv => whnf); with_reducible first | refine Round.mark ?_ | refine Tells.mark ?_ | refine Retold.mark ?_)
  all_goals try first | (show (_ : Bool) = _; simp_all; done) | (show (_ : Int) < _; simp at *; omega) | (show (_ : Int) ≤ _; simp at *; omega) | (show (_ : Nat) < _; simp at *; omega) | (show (_ : Nat) ≤ _; simp at *; omega)
  · exact Tells.mk (DW.bool (nm_size h).symm)
  · rename_i k hk e1
    have hlt := lt_int e1
    exact Tells.mk (DW.bool (nm_bad hlt h).symm)
  · rename_i k hk e1
    have hlt := lt_int e1
    refine Round.go (· + 1) (nm_next hk hlt h) (by show s.size - (k + 1) < s.size - k; omega) (Weak.list [] [] (by kernel_rfl) ?_ ?_)
    · repeat' (first | exact wsucc hlt (by omega) | exact DW.same _ rfl | exact DW.ref _ _ _ rfl | exact DW.arr _ _ _ rfl | exact OW.cells rfl rfl (DWl.same rfl) | refine OW.cells rfl rfl ?_ | refine DWl.cons ?_ ?_ | exact DWl.nil | exact DW.nilArr _ rfl | exact DW.nilLst _ | refine DW.clol ?_ ?_ | refine DW.aggl ?_ | refine DW.tupl ?_ | refine DW.int ?_ | refine DW.bool ?_ | refine DW.str ?_ | refine DW.arrE rfl ?_ | ((conv => whnf); first | refine And.intro ?_ ?_ | trivial))
    · repeat' (first | exact wsucc hlt (by omega) | exact DW.same _ rfl | exact DW.ref _ _ _ rfl | exact DW.arr _ _ _ rfl | exact OW.cells rfl rfl (DWl.same rfl) | refine OW.cells rfl rfl ?_ | refine DWl.cons ?_ ?_ | exact DWl.nil | exact DW.nilArr _ rfl | exact DW.nilLst _ | refine DW.clol ?_ ?_ | refine DW.aggl ?_ | refine DW.tupl ?_ | refine DW.int ?_ | refine DW.bool ?_ | refine DW.str ?_ | refine DW.arrE rfl ?_ | ((conv => whnf); first | refine And.intro ?_ ?_ | trivial))
  · rename_i e0 k hk
    have hge := ge_int h
    have hin := nm_in e0
    exact Tells.mk (DW.bool (by rw [nm_end hk hge, decide_eq_true hin]))
set_option maxRecDepth 20000 in
theorem name34_D (s : ByteArray) (hs : s.size ≤ 9223372036854775807) : DPure Tryz.prog 34 [strV s] (bl (nameB s)) := by
  refine DFun.data (DFun.body Tryz.func34 rfl (by kernel_rfl) ?_)
  repeat' (first | with_reducible rfl | ((conv => whnf); first | refine And.intro ?_ ?_ | (intro h; first | with_reducible exact tf_no h | with_reducible exact ft_no h | exact Bool.noConfusion h | with_reducible exact h | (have ht : true = true := h; clear ht h) | skip) | ((with_reducible refine DWl.mark ?_); repeat' (first | refine DWl.cons ?_ ?_ | exact DWl.nil | exact DW.same _ rfl | exact DW.ref _ _ _ rfl | exact DW.arr _ _ _ rfl | exact DW.sub _ _ _ _ rfl | exact DW.nilLst _ | refine DW.aggl ?_ | refine DW.tupl ?_ | refine DW.clol ?_ ?_ | refine DW.int ?_ | refine DW.bool ?_ | refine DW.str ?_)) | ((with_reducible refine Tri.mark ?_); first | (refine Tri.at (3) (int1 0) (by rfl) ?_; refine Tri.loop (nm34 s) (NmI s) (fun k => s.size - k) (0) (by kernel_rfl) (Weak.list [] [] ?_ ?_ ?_) ?_ ?_)) | ((with_reducible refine ECall.mark ?_); first | refine ECall.only ?_ (fun h => nomatch h) | refine ECall.only ?_ ?_) | ((with_reducible refine Drawn.mark ?_); first | refine Drawn.quiet (by kernel_rfl) ?_) | refine dcell_ok rfl ?_ | refine AppC.new ?_))
  all_goals first | (with_reducible refine enters_mark ?_; kernel_rfl) | (with_reducible refine boolT_mark ?_; kernel_rfl) | rfl | trivial | assumption | exact Nat.le_of_ble_eq_true rfl | (show entersB _ _ = true; kernel_rfl) | exact DW.same _ rfl | exact DW.ref _ _ _ rfl | exact DW.arr _ _ _ rfl | refine DW.int ?_ | refine dvb ?_ | refine dvi ?_ | exact OW.cells rfl rfl (DWl.same rfl) | exact Nat.zero_le _ | omega | skip
  all_goals repeat' (first | refine OW.cells rfl rfl ?_ | exact DW.nilArr _ rfl | refine DWl.cons ?_ ?_ | exact DWl.nil | exact DW.same _ rfl | exact DW.ref _ _ _ rfl | exact DW.arr _ _ _ rfl | exact DW.sub _ _ _ _ rfl | exact DW.nilLst _ | refine DW.aggl ?_ | refine DW.tupl ?_ | refine DW.clol ?_ ?_)
  all_goals try ((conv => whnf); with_reducible first | refine Round.mark ?_ | refine Tells.mark ?_ | refine Retold.mark ?_)
  all_goals try first | (show (_ : Bool) = _; simp_all; done) | (show (_ : Int) < _; simp at *; omega) | (show (_ : Int) ≤ _; simp at *; omega) | (show (_ : Nat) < _; simp at *; omega) | (show (_ : Nat) ≤ _; simp at *; omega)
  · rename_i k hk e1
    have hlt := lt_int e1
    exact Tells.mk (DW.bool (nm_bad hlt h).symm)
  · rename_i k hk e1
    have hlt := lt_int e1
    refine Round.go (· + 1) (nm_next hk hlt h) (by show s.size - (k + 1) < s.size - k; omega) (Weak.list [] [] (by kernel_rfl) ?_ ?_)
    · repeat' (first | exact wsucc hlt (by omega) | exact DW.same _ rfl | exact DW.ref _ _ _ rfl | exact DW.arr _ _ _ rfl | exact OW.cells rfl rfl (DWl.same rfl) | refine OW.cells rfl rfl ?_ | refine DWl.cons ?_ ?_ | exact DWl.nil | exact DW.nilArr _ rfl | exact DW.nilLst _ | refine DW.clol ?_ ?_ | refine DW.aggl ?_ | refine DW.tupl ?_ | refine DW.int ?_ | refine DW.bool ?_ | refine DW.str ?_ | refine DW.arrE rfl ?_ | ((conv => whnf); first | refine And.intro ?_ ?_ | trivial))
    · repeat' (first | exact wsucc hlt (by omega) | exact DW.same _ rfl | exact DW.ref _ _ _ rfl | exact DW.arr _ _ _ rfl | exact OW.cells rfl rfl (DWl.same rfl) | refine OW.cells rfl rfl ?_ | refine DWl.cons ?_ ?_ | exact DWl.nil | exact DW.nilArr _ rfl | exact DW.nilLst _ | refine DW.clol ?_ ?_ | refine DW.aggl ?_ | refine DW.tupl ?_ | refine DW.int ?_ | refine DW.bool ?_ | refine DW.str ?_ | refine DW.arrE rfl ?_ | ((conv => whnf); first | refine And.intro ?_ ?_ | trivial))
  · rename_i k hk
    have hge := ge_int h
    exact Tells.mk (DW.bool (by rw [nm_end hk hge]; exact nm_both))
theorem between31_D (x lo hi : Int) : DPure Tryz.prog 31 [int1 x, int1 lo, int1 hi] (bl (decide (lo ≤ x ∧ x ≤ hi))) := by
  refine DFun.data (DFun.body Tryz.func31 rfl (by kernel_rfl) ?_)
  repeat' (first | with_reducible rfl | ((conv => whnf); first | refine And.intro ?_ ?_ | (intro h; first | with_reducible exact tf_no h | with_reducible exact ft_no h | exact Bool.noConfusion h | with_reducible exact h | (have ht : true = true := h; clear ht h) | skip) | ((with_reducible refine DWl.mark ?_); repeat' (first | refine DWl.cons ?_ ?_ | exact DWl.nil | exact DW.same _ rfl | exact DW.ref _ _ _ rfl | exact DW.arr _ _ _ rfl | exact DW.sub _ _ _ _ rfl | exact DW.nilLst _ | refine DW.aggl ?_ | refine DW.tupl ?_ | refine DW.clol ?_ ?_ | refine DW.int ?_ | refine DW.bool ?_ | refine DW.str ?_)) | ((with_reducible refine ECall.mark ?_); first | refine ECall.only ?_ (fun h => nomatch h) | refine ECall.only ?_ ?_) | ((with_reducible refine Drawn.mark ?_); first | refine Drawn.quiet (by kernel_rfl) ?_) | refine dcell_ok rfl ?_ | refine AppC.new ?_))
  all_goals first | (with_reducible refine enters_mark ?_; kernel_rfl) | (with_reducible refine boolT_mark ?_; kernel_rfl) | rfl | trivial | assumption | exact Nat.le_of_ble_eq_true rfl | (show entersB _ _ = true; kernel_rfl) | exact DW.same _ rfl | exact DW.ref _ _ _ rfl | exact DW.arr _ _ _ rfl | refine DW.int ?_ | refine dvb ?_ | refine dvi ?_ | exact OW.cells rfl rfl (DWl.same rfl) | exact Nat.zero_le _ | omega | skip
  all_goals repeat' (first | refine OW.cells rfl rfl ?_ | exact DW.nilArr _ rfl | refine DWl.cons ?_ ?_ | exact DWl.nil | exact DW.same _ rfl | exact DW.ref _ _ _ rfl | exact DW.arr _ _ _ rfl | exact DW.sub _ _ _ _ rfl | exact DW.nilLst _ | refine DW.aggl ?_ | refine DW.tupl ?_ | refine DW.clol ?_ ?_)
  all_goals try ((conv => whnf); with_reducible first | refine Round.mark ?_ | refine Tells.mark ?_ | refine Retold.mark ?_)
  all_goals try first | (show (_ : Bool) = _; simp_all; done) | (show (_ : Int) < _; simp at *; omega) | (show (_ : Int) ≤ _; simp at *; omega) | (show (_ : Nat) < _; simp at *; omega) | (show (_ : Nat) ≤ _; simp at *; omega)
  all_goals (conv => whnf)
  all_goals refine Tells.mk (DW.bool ?_)
  all_goals (rw [Bool.eq_iff_iff, decide_eq_true_iff]; simp at *; try omega)
attribute [local irreducible] nameB NameP nd
theorem fit_close {m : Mo} {b : Bool} (h : b = true ↔ FitM m) : b = fitM m := by rw [Bool.eq_iff_iff, fitM, decide_eq_true_iff]; exact h
theorem na_iff {s : ByteArray} : (s == ByteArray.mk #[]) = true ↔ s = ByteArray.empty := ba_eq
theorem name_iff {s : ByteArray} : nameB s = true ↔ NameP s := by unfold nameB; exact decide_eq_true_iff
set_option maxRecDepth 20000 in
set_option maxHeartbeats 2000000 in
theorem fit9_D (m : Mo) (hm : m.name.size ≤ 9223372036854775807) : DPure Tryz.prog 9 [.agg (moD m)] (bl (fitM m)) := by
  obtain ⟨st, no, kd, pe, na, nu⟩ := m
  refine DFun.data (DFun.body Tryz.func9 rfl (by kernel_rfl) ?_)
  repeat' (first | with_reducible rfl | ((conv => whnf); first | refine And.intro ?_ ?_ | (intro h; first | with_reducible exact tf_no h | with_reducible exact ft_no h | exact Bool.noConfusion h | with_reducible exact h | (have ht : true = true := h; clear ht h) | skip) | ((with_reducible refine DWl.mark ?_); repeat' (first | refine DWl.cons ?_ ?_ | exact DWl.nil | exact DW.same _ rfl | exact DW.ref _ _ _ rfl | exact DW.arr _ _ _ rfl | exact DW.sub _ _ _ _ rfl | exact DW.nilLst _ | refine DW.aggl ?_ | refine DW.tupl ?_ | refine DW.clol ?_ ?_ | refine DW.int ?_ | refine DW.bool ?_ | refine DW.str ?_)) | ((with_reducible refine SCall.mark ?_); first | refine SCall.data (node30_D no) rfl rfl ?_ | refine SCall.scal (node30_D no) rfl rfl ?_ | refine SCall.data (node30_D pe) rfl rfl ?_ | refine SCall.scal (node30_D pe) rfl rfl ?_ | refine SCall.data (name32_D na hm) rfl rfl ?_ | refine SCall.scal (name32_D na hm) rfl rfl ?_ | refine SCall.data (between31_D nu 1 3) rfl rfl ?_ | refine SCall.scal (between31_D nu 1 3) rfl rfl ?_ | refine SCall.data (between31_D nu 1 5) rfl rfl ?_ | refine SCall.scal (between31_D nu 1 5) rfl rfl ?_) | ((with_reducible refine PCall.mark ?_); first | refine PCall.mk (node30_D no) rfl rfl ?_ | refine PCall.mk (node30_D pe) rfl rfl ?_ | refine PCall.mk (name32_D na hm) rfl rfl ?_ | refine PCall.mk (between31_D nu 1 3) rfl rfl ?_ | refine PCall.mk (between31_D nu 1 5) rfl rfl ?_) | ((with_reducible refine GCall.mark ?_); first | refine GCall.data (fun _ => node30_D no) rfl rfl ?_ | refine GCall.scal (fun _ => node30_D no) rfl rfl ?_ | refine GCall.data (fun _ => node30_D pe) rfl rfl ?_ | refine GCall.scal (fun _ => node30_D pe) rfl rfl ?_ | refine GCall.data (fun _ => name32_D na hm) rfl rfl ?_ | refine GCall.scal (fun _ => name32_D na hm) rfl rfl ?_ | refine GCall.data (fun _ => between31_D nu 1 3) rfl rfl ?_ | refine GCall.scal (fun _ => between31_D nu 1 3) rfl rfl ?_ | refine GCall.data (fun _ => between31_D nu 1 5) rfl rfl ?_ | refine GCall.scal (fun _ => between31_D nu 1 5) rfl rfl ?_) | ((with_reducible refine MCall.mark ?_); first | refine MCall.data (fun _ => node30_D no) rfl rfl ?_ | refine MCall.plain (PCall.mk (node30_D no) rfl rfl ?_) | refine MCall.data (fun _ => node30_D pe) rfl rfl ?_ | refine MCall.plain (PCall.mk (node30_D pe) rfl rfl ?_) | refine MCall.data (fun _ => name32_D na hm) rfl rfl ?_ | refine MCall.plain (PCall.mk (name32_D na hm) rfl rfl ?_) | refine MCall.data (fun _ => between31_D nu 1 3) rfl rfl ?_ | refine MCall.plain (PCall.mk (between31_D nu 1 3) rfl rfl ?_) | refine MCall.data (fun _ => between31_D nu 1 5) rfl rfl ?_ | refine MCall.plain (PCall.mk (between31_D nu 1 5) rfl rfl ?_)) | ((with_reducible refine ECall.mark ?_); first | refine ECall.only ?_ (fun h => nomatch h) | refine ECall.only ?_ ?_) | ((with_reducible refine Drawn.mark ?_); first | refine Drawn.quiet (by kernel_rfl) ?_) | refine dcell_ok rfl ?_ | refine AppC.new ?_))
  all_goals first | (with_reducible refine enters_mark ?_; kernel_rfl) | (with_reducible refine boolT_mark ?_; kernel_rfl) | rfl | trivial | assumption | exact Nat.le_of_ble_eq_true rfl | (show entersB _ _ = true; kernel_rfl) | exact DW.same _ rfl | exact DW.ref _ _ _ rfl | exact DW.arr _ _ _ rfl | refine DW.int ?_ | refine dvb ?_ | refine dvi ?_ | exact OW.cells rfl rfl (DWl.same rfl) | exact Nat.zero_le _ | omega | skip
  all_goals repeat' (first | refine OW.cells rfl rfl ?_ | exact DW.nilArr _ rfl | refine DWl.cons ?_ ?_ | exact DWl.nil | exact DW.same _ rfl | exact DW.ref _ _ _ rfl | exact DW.arr _ _ _ rfl | exact DW.sub _ _ _ _ rfl | exact DW.nilLst _ | refine DW.aggl ?_ | refine DW.tupl ?_ | refine DW.clol ?_ ?_)
  all_goals try ((conv => whnf); with_reducible first | refine Round.mark ?_ | refine Tells.mark ?_ | refine Retold.mark ?_)
  all_goals try first | (show (_ : Bool) = _; simp_all; done) | (show (_ : Int) < _; simp at *; omega) | (show (_ : Int) ≤ _; simp at *; omega) | (show (_ : Nat) < _; simp at *; omega) | (show (_ : Nat) ≤ _; simp at *; omega)
  all_goals (conv => whnf)
  all_goals refine Tells.mk (DW.bool (fit_close ?_))
  all_goals (unfold FitM EvP; clear hm; simp only [Bool.cond_false_right, Bool.cond_true_left, Bool.and_eq_true, Bool.or_eq_true, Bool.or_eq_false_iff, Bool.not_eq_true', Bool.not_eq_false', decide_eq_true_eq, decide_eq_false_iff_not, beq_iff_eq, beq_eq_false_iff_ne, bne_iff_ne, na_iff, name_iff, Bool.false_eq_true, false_iff] at *; grind)
set_option maxRecDepth 20000 in
set_option maxHeartbeats 2000000 in
theorem fit10_D (m : Mo) (hm : m.name.size ≤ 9223372036854775807) : DPure Tryz.prog 10 [.agg (moD m)] (bl (fitM m)) := by
  obtain ⟨st, no, kd, pe, na, nu⟩ := m
  refine DFun.data (DFun.body Tryz.func10 rfl (by kernel_rfl) ?_)
  repeat' (first | with_reducible rfl | ((conv => whnf); first | refine And.intro ?_ ?_ | (intro h; first | with_reducible exact tf_no h | with_reducible exact ft_no h | exact Bool.noConfusion h | with_reducible exact h | (have ht : true = true := h; clear ht h) | skip) | ((with_reducible refine DWl.mark ?_); repeat' (first | refine DWl.cons ?_ ?_ | exact DWl.nil | exact DW.same _ rfl | exact DW.ref _ _ _ rfl | exact DW.arr _ _ _ rfl | exact DW.sub _ _ _ _ rfl | exact DW.nilLst _ | refine DW.aggl ?_ | refine DW.tupl ?_ | refine DW.clol ?_ ?_ | refine DW.int ?_ | refine DW.bool ?_ | refine DW.str ?_)) | ((with_reducible refine SCall.mark ?_); first | refine SCall.data (node33_D no) rfl rfl ?_ | refine SCall.scal (node33_D no) rfl rfl ?_ | refine SCall.data (node33_D pe) rfl rfl ?_ | refine SCall.scal (node33_D pe) rfl rfl ?_ | refine SCall.data (name34_D na hm) rfl rfl ?_ | refine SCall.scal (name34_D na hm) rfl rfl ?_) | ((with_reducible refine PCall.mark ?_); first | refine PCall.mk (node33_D no) rfl rfl ?_ | refine PCall.mk (node33_D pe) rfl rfl ?_ | refine PCall.mk (name34_D na hm) rfl rfl ?_) | ((with_reducible refine GCall.mark ?_); first | refine GCall.data (fun _ => node33_D no) rfl rfl ?_ | refine GCall.scal (fun _ => node33_D no) rfl rfl ?_ | refine GCall.data (fun _ => node33_D pe) rfl rfl ?_ | refine GCall.scal (fun _ => node33_D pe) rfl rfl ?_ | refine GCall.data (fun _ => name34_D na hm) rfl rfl ?_ | refine GCall.scal (fun _ => name34_D na hm) rfl rfl ?_) | ((with_reducible refine MCall.mark ?_); first | refine MCall.data (fun _ => node33_D no) rfl rfl ?_ | refine MCall.plain (PCall.mk (node33_D no) rfl rfl ?_) | refine MCall.data (fun _ => node33_D pe) rfl rfl ?_ | refine MCall.plain (PCall.mk (node33_D pe) rfl rfl ?_) | refine MCall.data (fun _ => name34_D na hm) rfl rfl ?_ | refine MCall.plain (PCall.mk (name34_D na hm) rfl rfl ?_)) | ((with_reducible refine ECall.mark ?_); first | refine ECall.only ?_ (fun h => nomatch h) | refine ECall.only ?_ ?_) | ((with_reducible refine Drawn.mark ?_); first | refine Drawn.quiet (by kernel_rfl) ?_) | refine dcell_ok rfl ?_ | refine AppC.new ?_))
  all_goals first | (with_reducible refine enters_mark ?_; kernel_rfl) | (with_reducible refine boolT_mark ?_; kernel_rfl) | rfl | trivial | assumption | exact Nat.le_of_ble_eq_true rfl | (show entersB _ _ = true; kernel_rfl) | exact DW.same _ rfl | exact DW.ref _ _ _ rfl | exact DW.arr _ _ _ rfl | refine DW.int ?_ | refine dvb ?_ | refine dvi ?_ | exact OW.cells rfl rfl (DWl.same rfl) | exact Nat.zero_le _ | omega | skip
  all_goals repeat' (first | refine OW.cells rfl rfl ?_ | exact DW.nilArr _ rfl | refine DWl.cons ?_ ?_ | exact DWl.nil | exact DW.same _ rfl | exact DW.ref _ _ _ rfl | exact DW.arr _ _ _ rfl | exact DW.sub _ _ _ _ rfl | exact DW.nilLst _ | refine DW.aggl ?_ | refine DW.tupl ?_ | refine DW.clol ?_ ?_)
  all_goals try ((conv => whnf); with_reducible first | refine Round.mark ?_ | refine Tells.mark ?_ | refine Retold.mark ?_)
  all_goals try first | (show (_ : Bool) = _; simp_all; done) | (show (_ : Int) < _; simp at *; omega) | (show (_ : Int) ≤ _; simp at *; omega) | (show (_ : Nat) < _; simp at *; omega) | (show (_ : Nat) ≤ _; simp at *; omega)
  all_goals (conv => whnf)
  all_goals refine Tells.mk (DW.bool (fit_close ?_))
  all_goals (unfold FitM EvP; clear hm; simp only [Bool.cond_false_right, Bool.cond_true_left, Bool.and_eq_true, Bool.or_eq_true, Bool.or_eq_false_iff, Bool.not_eq_true', Bool.not_eq_false', decide_eq_true_eq, decide_eq_false_iff_not, beq_iff_eq, beq_eq_false_iff_ne, bne_iff_ne, na_iff, name_iff, Bool.false_eq_true, false_iff] at *; grind)
end Go.Proofs.YtkfbaeljcajjbaaGreatDoor
