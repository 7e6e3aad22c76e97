/- What is known of the variables; the kit's contracts met: texts cut, trimmed, joined. -/
import Derived.Test.YtagfmppjlfhmeaaGreatDoorPkH
import Derived.Test.YtagfmppjlfhmeaaGreatDoorDp27
import Derived.Test.YtagfmppjlfhmeaaGreatDoorPkL
import Derived.Lib.LaidTab
import Derived.Shelf.Strings.OnBuilder
import Derived.Lib.Join
import Derived.KernelRfl
import Derived.Shelf.Strings.Trim
import Derived.Shelf.Strings.Cut
import Derived.Shelf.Strconv.AppendIntPublic10
import Derived.Test.YtagfmppjlfhmeaaGreatDoorDp38

namespace Go.Proofs.YtagfmppjlfhmeaaGreatDoor
open Go.RowKit Go.Dl
def powN : String := ((Rows.diffAppliesUptoRow.laid.map (·.1)).getD 2 "")
def okD (w : World) : Prop := (∃ m, w.cell? ⟨0, 0, none⟩ = some (.int .i64 m)) ∧ Lib.TabIs Tryz.prog w powN .u64 Lib.pow10Tab
theorem var_lt {P : Program} {w : World} {n : String} {cs : Array Value} {g : Nat} (hg : P.globalNamed n = some g) (h : w.var? P n = some cs) : g < w.heap.size := by
  unfold World.var? at h
  rw [hg] at h
  rcases Nat.lt_or_ge g w.heap.size with h' | h'
  · exact h'
  · simp [Array.getElem?_eq_none h'] at h
theorem gPow : Tryz.prog.globalNamed powN = some 2 := by kernel_rfl
theorem okD_mono {w0 w : World} (hb : Below w0.heap.size w0 w) (h : okD w0) : okD w := by
  obtain ⟨⟨m, h1⟩, h4⟩ := h
  refine ⟨⟨m, ?_⟩, ?_⟩
  · rw [World.cell?_of_block (w := w0) (a := ⟨0, 0, none⟩) (hb.block 0 (World.block_lt_of_cell? _ _ h1))]; exact h1
  · exact var?_below hb gPow (var_lt gPow h4) h4
instance : Inhabited GlobS := ⟨⟨okD, okD_mono, false⟩⟩
def str (l : List UInt8) : DV := .v (.string ⟨l.toArray⟩)
def int1 (x : Int) : DV := .v (.int .i64 x)
theorem below_drew (w : World) (k : Nat) : Below w.heap.size w (w.drewN k) := ⟨rfl, rfl, rfl, Nat.le_refl _, fun _ _ => rfl⟩
def bs (l : List UInt8) : ByteArray := ⟨l.toArray⟩
def strV (s : ByteArray) : DV := .v (.string s)
def bl (b : Bool) : DV := .v (.bool b)
def strD (x : ByteArray) : List DV := [.v (.string x)]
def strs (l : List ByteArray) : DV := .lst 1 (l.map strD)
def joinB (sep : ByteArray) (ws : List ByteArray) : ByteArray := bs (Lib.join (ws.map (·.data.toList)) sep.data.toList)
theorem extraJ : Builder.Extra Tryz.prog Tryz.laysJoin_ren where
  sizeBuilder := by kernel_rfl
  liesBuilder := by kernel_rfl
  t5 := Tryz.underlying5
  a5 := Tryz.isAgg5
  z5 := Tryz.sizeOf5
  v5 := Tryz.zeroValue5
  infoByte := by kernel_rfl
  cellsByte := by kernel_rfl
  sizeByte := by kernel_rfl
  neB5 := by decide
theorem DPure.kitS {f : FuncId} {ws : List ByteArray} {sep : ByteArray} {r : DV} (h : ∀ (w : World) (a : Option Addr) (bk o c : Nat), Gok w → (ws ≠ [] → a = some ⟨bk, o, none⟩) → (∀ (j : Nat) x, ws[j]? = some x → w.cell? ⟨bk, o + j, none⟩ = some (.string x)) → ws.length ≤ c →
      Calls Tryz.prog f #[.slice a ws.length c, .string sep] w fun e w' => ∃ v, e = .returned v ∧ Below w.heap.size w w' ∧ ∀ F : Nat → Prop, (∀ b, w.heap.size ≤ b → F b) → RV w' F (fun _ => none) r v) (hdr : Drs = false := by rfl) :
    DPure Tryz.prog f [strs ws, .v (.string sep)] r := fun w F vals hg hF hx => by
  match vals, hx.1 with
  | [x0, x1], _ =>
  have e1 : x1 = .string sep := rv_v (hx.2 1 _ _ rfl rfl)
  subst e1
  have h0 := hx.2 0 _ _ rfl rfl
  have key : ∃ a bk o c, x0 = .slice a ws.length c ∧ (ws ≠ [] → a = some ⟨bk, o, none⟩) ∧ (∀ (j : Nat) x, ws[j]? = some x → w.cell? ⟨bk, o + j, none⟩ = some (.string x)) ∧ ws.length ≤ c := by
    unfold strs at h0
    generalize hes : ws.map strD = es at h0
    cases h0 with
    | data hd =>
      cases hd with
      | lst _ _ a b off cap g ha hn hc hm hsz hcell hd =>
        have hl : es.length = ws.length := by rw [← hes, List.length_map]
        refine ⟨a, b, off, cap, by rw [hl], fun hne => ha (fun e => hne (by rw [e] at hl; exact List.eq_nil_of_length_eq_zero hl.symm)), fun j x hj => ?_, by omega⟩
        have h1 : es[j]? = some [DV.v (.string x)] := by rw [← hes, List.getElem?_map, hj]; rfl
        have h2 := (hcell j _ 0 _ h1 rfl).1
        have h3 := hd j _ 0 _ h1 rfl
        rw [Nat.mul_one, Nat.add_zero] at h2
        have e : g j 0 = .string x := rv_v (RV.data (β := fun _ => none) h3)
        rw [h2, e]
  obtain ⟨a, bk, o, c, rfl, k1, k2, k3⟩ := key
  refine (h w a bk o c hg k1 k2 k3).mono fun e w' ⟨v, he, hb, hr⟩ => ?_
  obtain ⟨k1, _⟩ := (SRel.empty w F hg hF).below' (.of hb fun e => by rw [hdr] at e; cases e)
  refine ⟨v, r, _, _, he, rfl, k1, (hr F hF).mono (fun _ _ h => h) fun b hb hFb => ⟨⟨hFb, ?_⟩, rfl⟩⟩
  rcases Nat.lt_or_ge b w.heap.size with hlt | hge
  · exact .inl hlt
  · exact .inr ⟨hge, fun i c hi => by cases hi⟩
theorem join56_D (ws : List ByteArray) (sep : ByteArray) (h1 : 1 ≤ ws.length) (hlen : (joinB sep ws).size ≤ 140737488355328) (hw : ws.length ≤ 140737488355328) : DPure Tryz.prog 56 [strs ws, strV sep] (strV (joinB sep ws)) :=
  DPure.kitS fun w a bk o c hg ha hcells hc => by
    have hne : ws ≠ [] := fun e => by rw [e] at h1; exact absurd h1 (by decide)
    rw [ha hne]
    obtain ⟨x, hx⟩ : ∃ x, ws[0]? = some x := ⟨_, List.getElem?_eq_getElem (by omega)⟩
    have hbk : bk < w.heap.size := World.block_lt_of_cell? w _ (hcells 0 x hx)
    refine (Any.strings_Join Tryz.laysJoin extraJ bk o c ws sep w hcells hbk hw hc (by
      have e : (joinB sep ws).size = (Lib.join (ws.map (·.data.toList)) sep.data.toList).length := by show (Lib.join (ws.map (·.data.toList)) sep.data.toList).toArray.size = _; simp
      rw [e] at hlen; exact hlen)).mono fun e w' ⟨he, hb⟩ => ?_
    exact ⟨_, he, hb, fun F hF => .data (.v _ rfl)⟩
def spaceB : ByteArray := ⟨#[32]⟩
def trimB (s : ByteArray) : ByteArray := ⟨(Lib.trimB s.data.toList 32).toArray⟩
theorem trim87_D (s : ByteArray) (hs : s.size ≤ 9223372036854775807) : DPure Tryz.prog 87 [strV s, strV spaceB] (strV (trimB s)) :=
  DPure.kit (args := [.string s, .string spaceB]) fun w _ => (Any.strings_Trim_one Tryz.laysTrim s 32 (by decide) w hs).mono fun e w' ⟨he, hw⟩ => ⟨_, he, by
    rcases hw with rfl | rfl
    · exact Below.refl _ _
    · exact below_drew w 1, fun F hF => .data (.v _ rfl)⟩
def cutT (s sep : ByteArray) : ByteArray × ByteArray × Bool := (bs (Lib.cut s.data.toList sep.data.toList).1, bs (Lib.cut s.data.toList sep.data.toList).2.1, (Lib.cut s.data.toList sep.data.toList).2.2)
theorem cut39_D (s sep : ByteArray) (hs : s.size < 4294967281) : DPure Tryz.prog 39 [strV s, strV sep] (.tup [strV (cutT s sep).1, strV (cutT s sep).2.1, bl (cutT s sep).2.2]) := by
  refine DPure.kit (args := [.string s, .string sep]) fun w hg => ?_
  obtain ⟨⟨m, h1⟩, _⟩ := hg
  refine (Any.strings_Cut Tryz.laysCut s sep m w hs h1).mono fun e w' ⟨he, n, hw⟩ => ?_
  subst hw
  exact ⟨_, he, below_drew w n, fun F hF => .tup _ [_, _, _] rfl (fun j d y h1 h2 => by
    match j, h1, h2 with
    | 0, h1, h2 => cases h1; cases h2; exact .data (.v _ rfl)
    | 1, h1, h2 => cases h1; cases h2; exact .data (.v _ rfl)
    | 2, h1, h2 => cases h1; cases h2; exact .data (.v _ rfl))⟩
theorem wrap64 {k : Nat} (h : k < 9223372036854775808) : IntKind.i64.wrap (k : Int) = k := by
  simp [IntKind.wrap, IntKind.bits, IntKind.signed]; omega
theorem wrapI {x : Int} (h : -9223372036854775808 ≤ x) (h2 : x < 9223372036854775808) : IntKind.i64.wrap x = x := by
  simp [IntKind.wrap, IntKind.bits, IntKind.signed]; omega
theorem take_succ_eq {α : Type} {a b : List α} {d : α} {k : Nat} (hl : a.length = b.length) (h : a.take k = b.take k) (hk : k < a.length) (e : a.getD k d = b.getD k d) : a.take (k + 1) = b.take (k + 1) := by
  have h1 : a[k]? = b[k]? := by
    simp only [List.getD_eq_getElem?_getD, List.getElem?_eq_getElem hk, List.getElem?_eq_getElem (show k < b.length by omega), Option.getD_some] at e ⊢
    rw [e]
  rw [List.take_add_one, List.take_add_one, h, h1]
theorem take_succ {α : Type} {a : List α} {d : α} {k : Nat} (hk : k < a.length) : a.take (k + 1) = a.take k ++ [a.getD k d] := by
  rw [List.take_add_one, List.getElem?_eq_getElem hk, List.getD_eq_getElem?_getD, List.getElem?_eq_getElem hk]; rfl
theorem _root_.Go.Dl.Tri.at {P : Program} {N : Nat} {Y : YT} {c : Code} {st : St} {Q : DExit → St → Prop} (t : Nat) (d : DV) (_ : st.tm t = d) (h : Tri P N Y c st Q) : Tri P N Y c st Q := h
theorem wsucc {k n : Nat} (h : k < n) (hn : n ≤ 9223372036854775807) : IntKind.i64.wrap ((k : Int) + 1) = ((k + 1 : Nat) : Int) := by
  have := wrap64 (k := k + 1) (by omega)
  simpa using this
theorem lt_of_test {k : Nat} {α : Type} {f : α → List DV} {l : List α} (h : decide ((k : Int) < ((l.map f).length : Nat)) = true) : k < l.length := by simpa using h
theorem ge_of_test {k : Nat} {α : Type} {f : α → List DV} {l : List α} (h : decide ((k : Int) < ((l.map f).length : Nat)) = false) : l.length ≤ k := by simpa using h
theorem lt_int {k n : Nat} (h : decide ((k : Int) < (n : Int)) = true) : k < n := by simpa using h
theorem ge_int {k n : Nat} (h : decide ((k : Int) < (n : Int)) = false) : n ≤ k := by simpa using h
theorem _root_.Go.Dl.DWl.eq {ρ : Nat → Option Nat} {s : Sto} {pub : Nat → Prop} {X Y : List DV} (h : X = Y) (hall : Y.all noId1 = true) : DWl ρ s pub X Y := by rw [h]; exact DWl.same hall
theorem ba_eq {a b : ByteArray} : (a == b) = true ↔ a = b := by
  obtain ⟨a⟩ := a
  obtain ⟨b⟩ := b
  show (a == b) = true ↔ _
  simp
end Go.Proofs.YtagfmppjlfhmeaaGreatDoor

namespace Go.Proofs.YtagfmppjlfhmeaaGreatDoor
open Go.RowKit Go.Dl
attribute [local irreducible] Tri SCall TSem ECall Drawn DFun QSem PSem PCall GCall MCall Round Weak dloadE OW DWl Tells IntKind.wrap Retold ESem
def lfD (x : Lf) : List DV := [strV x.p, strV x.v]
def chD (c : Ch) : List DV := [strV c.p, bl c.hw, strV c.was, bl c.hi, strV c.is]
def lfs (l : List Lf) : DV := .lst 2 (l.map lfD)
def chs (l : List Ch) : DV := .lst 5 (l.map chD)
def lf0 : Lf := ⟨emB, emB⟩
def ch0 : Ch := ⟨emB, false, emB, false, emB⟩
theorem ba_len (t : ByteArray) : t.data.toList.length = t.size := Array.length_toList
def okP (b : Int) : Prop := 32 ≤ b ∧ b ≤ 126 ∧ b ≠ 61 ∧ b ≠ 62
instance (b : Int) : Decidable (okP b) := by unfold okP; infer_instance
def badP (b : Int) : Bool := bif bif bif decide (b < 32) then true else decide (126 < b) then true else b == 61 then true else b == 62
theorem badP_iff {b : Int} : badP b = false ↔ okP b := by
  unfold badP okP
  by_cases h1 : b < 32 <;> by_cases h2 : 126 < b <;> by_cases h3 : b = 61 <;> by_cases h4 : b = 62 <;> simp [h1, h2, h3, h4] <;> omega
def PlI (s : ByteArray) (k : Nat) : Prop := k ≤ s.size ∧ ∀ i, i < k → okP (byteAt s i)
def pl65 (s : ByteArray) (k : Nat) : St := ⟨0, tmOf [(0, strV s), (6, int1 s.size), (7, int1 k)], .of [] 0⟩
def pl50 (s : ByteArray) (k : Nat) : St := ⟨0, tmOf [(0, strV s), (3, int1 k)], .of [] 0⟩
def plainB (s : ByteArray) : Bool := decide (∀ i, i < s.size → okP (byteAt s i)) && (s == trimB s)
theorem pl_bad {s : ByteArray} {k : Nat} (hk : k < s.size) (h : badP (byteAt s k) = true) : plainB s = false := by
  unfold plainB
  rw [decide_eq_false (fun hc => by rw [badP_iff.2 (hc k hk)] at h; cases h)]; rfl
theorem pl_next {s : ByteArray} {k : Nat} (hi : PlI s k) (hk : k < s.size) (h : badP (byteAt s k) = false) : PlI s (k + 1) := by
  refine ⟨hk, fun i h1 => ?_⟩
  by_cases e : i = k
  · subst e; exact badP_iff.1 h
  · exact hi.2 i (by omega)
theorem pl_end {s : ByteArray} {k : Nat} (hi : PlI s k) (h : s.size ≤ k) : plainB s = (s == trimB s) := by
  have hk : k = s.size := by have := hi.1; omega
  subst hk
  unfold plainB
  rw [decide_eq_true hi.2]; rfl
def endT (s : ByteArray) : Bool := bif ((s.size : Int) == 0) then true else bif byteAt s 0 != 32 then byteAt s ((s.size : Int) - 1).toNat != 32 else false
attribute [local irreducible] byteAt okP
set_option maxRecDepth 20000 in
theorem plain65_D (s : ByteArray) (hs : s.size ≤ 9223372036854775807) : DPure Tryz.prog 65 [strV s] (bl (plainB s)) := by
  have ht := trim87_D s hs
  refine DFun.data (DFun.body Tryz.func65 rfl (by kernel_rfl) ?_)
  repeat' (first | with_reducible rfl | ((conv => whnf); first | refine And.intro ?_ ?_ | (intro h; first | with_reducible exact tf_no h | with_reducible exact ft_no h | exact Bool.noConfusion h | with_reducible exact h | (have ht : true = true := h; clear ht h) | skip) | ((with_reducible refine DWl.mark ?_); repeat' (first | refine DWl.cons ?_ ?_ | exact DWl.nil | exact DW.same _ rfl | exact DW.ref _ _ _ rfl | exact DW.arr _ _ _ rfl | exact DW.sub _ _ _ _ rfl | exact DW.mo _ _ rfl | exact DW.nilLst _ | refine DW.aggl ?_ | refine DW.tupl ?_ | refine DW.clol ?_ ?_ | refine DW.int ?_ | refine DW.bool ?_ | refine DW.str ?_)) | ((with_reducible refine SCall.mark ?_); first | refine SCall.data (ht) rfl rfl ?_ | refine SCall.scal (ht) rfl rfl ?_) | ((with_reducible refine PCall.mark ?_); first | refine PCall.mk (ht) rfl rfl ?_) | ((with_reducible refine GCall.mark ?_); first | refine GCall.data (fun _ => ht) rfl rfl ?_ | refine GCall.scal (fun _ => ht) rfl rfl ?_) | ((with_reducible refine MCall.mark ?_); first | refine MCall.data (fun _ => ht) rfl rfl ?_ | refine MCall.plain (PCall.mk (ht) rfl rfl ?_)) | ((with_reducible refine Tri.mark ?_); first | (refine Tri.at (7) (int1 0) (by rfl) ?_; refine Tri.loop (pl65 s) (PlI s) (fun k => s.size - k) (0) (by kernel_rfl) (Weak.list [] [] ?_ ?_ ?_) ?_ ?_)) | ((with_reducible refine ECall.mark ?_); first | refine ECall.only ?_ (fun h => nomatch h) | refine ECall.only ?_ ?_) | ((with_reducible refine Drawn.mark ?_); first | refine Drawn.quiet (by kernel_rfl) ?_) | refine dcell_ok rfl ?_ | refine AppC.new ?_))
  all_goals first | (with_reducible refine enters_mark ?_; kernel_rfl) | (with_reducible refine boolT_mark ?_; kernel_rfl) | rfl | trivial | assumption | exact Nat.le_of_ble_eq_true rfl | (show entersB _ _ = true; kernel_rfl) | exact DW.same _ rfl | exact DW.ref _ _ _ rfl | exact DW.arr _ _ _ rfl | refine DW.int ?_ | refine dvb ?_ | refine dvi ?_ | exact OW.cells rfl rfl (DWl.same rfl) | exact Nat.zero_le _ | omega | skip
  all_goals repeat' (first | refine OW.cells rfl rfl ?_ | exact DW.nilArr _ rfl | refine DWl.cons ?_ ?_ | exact DWl.nil | exact DW.same _ rfl | exact DW.ref _ _ _ rfl | exact DW.arr _ _ _ rfl | exact DW.sub _ _ _ _ rfl | exact DW.mo _ _ rfl | exact DW.nilLst _ | refine DW.aggl ?_ | refine DW.tupl ?_ | refine DW.clol ?_ ?_)
  all_goals try ((conv => whnf); with_reducible first | refine Round.mark ?_ | refine Tells.mark ?_ | refine Retold.mark ?_)
  all_goals try first | (show (_ : Bool) = _; simp_all; done) | (show (_ : Int) < _; simp at *; omega) | (show (_ : Int) ≤ _; simp at *; omega) | (show (_ : Nat) < _; simp at *; omega) | (show (_ : Nat) ≤ _; simp at *; omega)
  · rename_i k hk e1
    have hlt := lt_int e1
    exact Tells.mk (DW.bool (pl_bad hlt h).symm)
  · rename_i k hk e1
    have hlt := lt_int e1
    refine Round.go (· + 1) (pl_next hk hlt h) (by show s.size - (k + 1) < s.size - k; omega) (Weak.list [] [] (by kernel_rfl) ?_ ?_)
    iterate 2 · repeat' (first | exact wsucc hlt (by omega) | exact DW.same _ rfl | exact DW.ref _ _ _ rfl | exact DW.arr _ _ _ rfl | exact OW.cells rfl rfl (DWl.same rfl) | refine OW.cells rfl rfl ?_ | refine DWl.cons ?_ ?_ | exact DWl.nil | exact DW.nilArr _ rfl | exact DW.nilLst _ | refine DW.clol ?_ ?_ | refine DW.aggl ?_ | refine DW.tupl ?_ | refine DW.int ?_ | refine DW.bool ?_ | refine DW.str ?_ | refine DW.arrE rfl ?_ | ((conv => whnf); first | refine And.intro ?_ ?_ | trivial))
  · rename_i k hk
    have hge := ge_int h
    exact Tells.mk (DW.bool (by rw [pl_end hk hge]))
theorem dw_id {p : UInt8 → Bool} : ∀ {l : List UInt8}, (l.dropWhile p).length = l.length → l.dropWhile p = l := fun h => List.IsSuffix.eq_of_length (List.dropWhile_suffix _) h
theorem dw_head {p : UInt8 → Bool} {l : List UInt8} : l.dropWhile p = l ↔ ∀ c r, l = c :: r → p c = false := by
  cases l with
  | nil => exact ⟨fun _ c r h => (by cases h), fun _ => rfl⟩
  | cons c r =>
    rw [List.dropWhile_cons]
    cases hp : p c with
    | false => exact ⟨fun _ c' r' h => by cases h; exact hp, fun _ => rfl⟩
    | true =>
      refine ⟨fun h => ?_, fun h => by have := h c r rfl; rw [hp] at this; cases this⟩
      have h1 : (r.dropWhile p).length = (c :: r).length := congrArg List.length h
      have h2 := (List.dropWhile_suffix (l := r) p).length_le
      rw [h1, List.length_cons] at h2; omega
theorem trim_iff {l : List UInt8} : Lib.trimB l 32 = l ↔ l.dropWhile (· == 32) = l ∧ l.reverse.dropWhile (· == 32) = l.reverse := by
  unfold Lib.trimB Lib.trimLeftB Lib.trimRightB
  constructor
  · intro h
    have h1 := (List.dropWhile_suffix (l := (l.reverse.dropWhile (· == 32)).reverse) (· == 32)).length_le
    have h2 := (List.dropWhile_suffix (l := l.reverse) (· == (32 : UInt8))).length_le
    have h3 := congrArg List.length h
    rw [List.length_reverse] at h1 h2
    have e := dw_id (p := (· == (32 : UInt8))) (l := l.reverse) (by rw [List.length_reverse]; omega)
    rw [e, List.reverse_reverse] at h
    exact ⟨h, e⟩
  · intro h
    rw [h.2, List.reverse_reverse, h.1]
theorem byte_0 {s : ByteArray} {c : UInt8} {r : List UInt8} (h : s.data.toList = c :: r) : byteAt s 0 = (c.toNat : Int) := by unfold byteAt; rw [h]; rfl
theorem byte_l {s : ByteArray} {c : UInt8} {r : List UInt8} (h : s.data.toList.reverse = c :: r) : byteAt s ((s.size : Int) - 1).toNat = (c.toNat : Int) := by
  have e : s.data.toList = r.reverse ++ [c] := by
    have h2 := congrArg List.reverse h
    rw [List.reverse_reverse] at h2; rw [h2]; simp
  have hl : s.size = r.length + 1 := by rw [← ba_len, e]; simp
  unfold byteAt
  rw [e, hl, show (((r.length + 1 : Nat) : Int) - 1).toNat = r.length by omega]
  simp
theorem u8_ne {c : UInt8} : ((c.toNat : Int) != 32) = true ↔ (c == 32) = false := by
  have h : (c.toNat : Int) = 32 ↔ c = 32 := ⟨fun h => UInt8.toNat_inj.1 (by show c.toNat = 32; omega), fun h => by subst h; rfl⟩
  rw [bne_iff_ne, beq_eq_false_iff_ne]
  exact ⟨fun k e => k (h.2 e), fun k e => k (h.1 e)⟩
theorem trim_end (s : ByteArray) : (s == trimB s) = endT s := by
  have h1 : (s == trimB s) = true ↔ Lib.trimB s.data.toList 32 = s.data.toList := by
    rw [ba_eq]
    unfold trimB
    constructor
    · intro h
      have := congrArg (fun x : ByteArray => x.data.toList) h
      simpa using this.symm
    · intro h
      rw [h]
  have h2 : endT s = true ↔ Lib.trimB s.data.toList 32 = s.data.toList := by
    rw [trim_iff, dw_head, dw_head]
    unfold endT
    rcases hs : s.data.toList with _ | ⟨c, r⟩
    · have h0 : s.size = 0 := by rw [← ba_len, hs]; rfl
      rw [h0]
      exact ⟨fun _ => ⟨fun _ _ h => (by cases h), fun _ _ h => (by cases h)⟩, fun _ => rfl⟩
    · have h0 : (((s.size : Nat) : Int) == 0) = false := by
        rw [beq_eq_false_iff_ne, ← ba_len, hs, List.length_cons]; omega
      obtain ⟨d, q, hq⟩ : ∃ d q, s.data.toList.reverse = d :: q := by
        rw [hs]
        cases hr : (c :: r).reverse with
        | nil => simp at hr
        | cons d q => exact ⟨d, q, rfl⟩
      rw [h0, byte_0 hs, byte_l hq, ← hs, hq, cond_false]
      constructor
      · intro h
        have k1 : ((c.toNat : Int) != 32) = true := by
          cases k : ((c.toNat : Int) != 32) with
          | true => rfl
          | false => rw [k] at h; cases h
        rw [k1, cond_true] at h
        exact ⟨fun _ _ e => by rw [hs] at e; cases e; exact u8_ne.1 k1, fun _ _ e => by cases e; exact u8_ne.1 h⟩
      · intro h
        rw [u8_ne.2 (h.1 c r hs), cond_true]
        exact u8_ne.2 (h.2 d q rfl)
  rw [Bool.eq_iff_iff, h1, h2]
theorem pe_0 {s : ByteArray} (h : ((s.size : Int) == 0) = false) : 0 < s.size := by
  have := ne_of_beq_false h
  omega
theorem pe_w {s : ByteArray} (hs : s.size ≤ 9223372036854775807) : IntKind.i64.wrap ((s.size : Int) - 1) = (s.size : Int) - 1 := wrapI (by omega) (by omega)
theorem pe_1 {s : ByteArray} (hs : s.size ≤ 9223372036854775807) (h : ((s.size : Int) == 0) = false) : 0 ≤ IntKind.i64.wrap ((s.size : Int) - 1) := by
  rw [pe_w hs]; have := pe_0 h; omega
theorem pe_2 {s : ByteArray} (hs : s.size ≤ 9223372036854775807) : IntKind.i64.wrap ((s.size : Int) - 1) < s.size := by
  rw [pe_w hs]; omega
theorem pe_g {s : ByteArray} {b c : Bool} (h : (((s.size : Int) == 0) == false && b && c) = true) : ((s.size : Int) == 0) = false := by
  cases k : ((s.size : Int) == 0) with
  | false => rfl
  | true => rw [k] at h; cases b <;> cases h
theorem pe_g1 {s : ByteArray} (h : (((s.size : Int) == 0) == false) = true) : ((s.size : Int) == 0) = false := by
  cases k : ((s.size : Int) == 0) with
  | false => rfl
  | true => rw [k] at h; cases h
theorem pe_end {s : ByteArray} {k : Nat} (hs : s.size ≤ 9223372036854775807) (hi : PlI s k) (h : s.size ≤ k) : plainB s = (bif ((s.size : Int) == 0) then true else bif byteAt s (Int.toNat 0) != 32 then byteAt s (IntKind.i64.wrap ((s.size : Int) - 1)).toNat != 32 else false) := by
  rw [pl_end hi h, trim_end, pe_w hs]; rfl
set_option maxRecDepth 20000 in
theorem plain50_D (s : ByteArray) (hs : s.size ≤ 9223372036854775807) : DPure Tryz.prog 50 [strV s] (bl (plainB s)) := by
  refine DFun.data (DFun.body Tryz.func50 rfl (by kernel_rfl) ?_)
  repeat' (first | with_reducible rfl | ((conv => whnf); first | refine And.intro ?_ ?_ | (intro h; first | with_reducible exact tf_no h | with_reducible exact ft_no h | exact Bool.noConfusion h | with_reducible exact h | (have ht : true = true := h; clear ht h) | skip) | ((with_reducible refine DWl.mark ?_); repeat' (first | refine DWl.cons ?_ ?_ | exact DWl.nil | exact DW.same _ rfl | exact DW.ref _ _ _ rfl | exact DW.arr _ _ _ rfl | exact DW.sub _ _ _ _ rfl | exact DW.mo _ _ rfl | exact DW.nilLst _ | refine DW.aggl ?_ | refine DW.tupl ?_ | refine DW.clol ?_ ?_ | refine DW.int ?_ | refine DW.bool ?_ | refine DW.str ?_)) | ((with_reducible refine Tri.mark ?_); first | (refine Tri.at (3) (int1 0) (by rfl) ?_; refine Tri.loop (pl50 s) (PlI s) (fun k => s.size - k) (0) (by kernel_rfl) (Weak.list [] [] ?_ ?_ ?_) ?_ ?_)) | ((with_reducible refine ECall.mark ?_); first | refine ECall.only ?_ (fun h => nomatch h) | refine ECall.only ?_ ?_) | ((with_reducible refine Drawn.mark ?_); first | refine Drawn.quiet (by kernel_rfl) ?_) | refine dcell_ok rfl ?_ | refine AppC.new ?_))
  all_goals first | (with_reducible refine enters_mark ?_; kernel_rfl) | (with_reducible refine boolT_mark ?_; kernel_rfl) | rfl | trivial | assumption | exact Nat.le_of_ble_eq_true rfl | (show entersB _ _ = true; kernel_rfl) | exact DW.same _ rfl | exact DW.ref _ _ _ rfl | exact DW.arr _ _ _ rfl | refine DW.int ?_ | refine dvb ?_ | refine dvi ?_ | exact OW.cells rfl rfl (DWl.same rfl) | exact Nat.zero_le _ | omega | skip
  all_goals repeat' (first | refine OW.cells rfl rfl ?_ | exact DW.nilArr _ rfl | refine DWl.cons ?_ ?_ | exact DWl.nil | exact DW.same _ rfl | exact DW.ref _ _ _ rfl | exact DW.arr _ _ _ rfl | exact DW.sub _ _ _ _ rfl | exact DW.mo _ _ rfl | exact DW.nilLst _ | refine DW.aggl ?_ | refine DW.tupl ?_ | refine DW.clol ?_ ?_)
  all_goals try ((conv => whnf); with_reducible first | refine Round.mark ?_ | refine Tells.mark ?_ | refine Retold.mark ?_)
  all_goals try first | (show (_ : Bool) = _; simp_all; done) | (show (_ : Int) < _; simp at *; omega) | (show (_ : Int) ≤ _; simp at *; omega) | (show (_ : Nat) < _; simp at *; omega) | (show (_ : Nat) ≤ _; simp at *; omega)
  · rename_i k hk e1
    have hlt := lt_int e1
    exact Tells.mk (DW.bool (pl_bad hlt h).symm)
  · rename_i k hk e1
    have hlt := lt_int e1
    refine Round.go (· + 1) (pl_next hk hlt h) (by show s.size - (k + 1) < s.size - k; omega) (Weak.list [] [] (by kernel_rfl) ?_ ?_)
    iterate 2 · repeat' (first | exact wsucc hlt (by omega) | exact DW.same _ rfl | exact DW.ref _ _ _ rfl | exact DW.arr _ _ _ rfl | exact OW.cells rfl rfl (DWl.same rfl) | refine OW.cells rfl rfl ?_ | refine DWl.cons ?_ ?_ | exact DWl.nil | exact DW.nilArr _ rfl | exact DW.nilLst _ | refine DW.clol ?_ ?_ | refine DW.aggl ?_ | refine DW.tupl ?_ | refine DW.int ?_ | refine DW.bool ?_ | refine DW.str ?_ | refine DW.arrE rfl ?_ | ((conv => whnf); first | refine And.intro ?_ ?_ | trivial))
  · have := pe_0 (pe_g1 h); omega
  · exact pe_1 hs (pe_g h)
  · exact pe_2 hs
  · rename_i k hk
    have hge := ge_int h
    exact Tells.mk (DW.bool (pe_end hs hk hge).symm)
def pathB (s : ByteArray) : Bool := plainB s && decide (1 ≤ s.size ∧ s.size ≤ 256)
def valB (s : ByteArray) : Bool := plainB s && decide (s.size ≤ 131072)
theorem ba_nil {t : ByteArray} (h : t.size = 0) : t = emB := by
  obtain ⟨a⟩ := t
  have : a = #[] := Array.eq_empty_of_size_eq_zero h
  subst this; rfl
theorem bne_iff {a b : ByteArray} : (a != b) = true ↔ a ≠ b := by
  cases h : a == b with
  | true => exact ⟨fun k => (by unfold bne at k; rw [h] at k; cases k), fun k => absurd (ba_eq.1 h) k⟩
  | false => exact ⟨fun _ e => (by rw [ba_eq.2 e] at h; cases h), fun _ => (by unfold bne; rw [h]; rfl)⟩
theorem ne_size (s : ByteArray) : (s != emB) = decide (1 ≤ s.size) := by
  by_cases h : s.size = 0
  · rw [ba_nil h]; rfl
  · rw [decide_eq_true (show 1 ≤ s.size by omega), bne_iff]
    exact fun e => h (by rw [e]; rfl)
theorem int_le {s : ByteArray} {n : Nat} {m : Int} (h : m = n) : decide ((s.size : Int) ≤ m) = decide (s.size ≤ n) := by
  rw [Bool.eq_iff_iff, decide_eq_true_iff, decide_eq_true_iff]; omega
theorem int_ge {s : ByteArray} {n : Nat} {m : Int} (h : m = n) : decide (m ≤ (s.size : Int)) = decide (n ≤ s.size) := by
  rw [Bool.eq_iff_iff, decide_eq_true_iff, decide_eq_true_iff]; omega
theorem path_1 (s : ByteArray) : (bif (bif plainB s then s != emB else false) then decide ((s.size : Int) ≤ 256) else false) = pathB s := by
  rw [ne_size, int_le (n := 256) (m := 256) rfl]
  unfold pathB
  rw [Bool.decide_and]
  cases plainB s <;> cases decide (1 ≤ s.size) <;> rfl
theorem path_2 (s : ByteArray) : (bif (bif plainB s then decide ((1 : Int) ≤ (s.size : Int)) else false) then decide ((s.size : Int) ≤ 256) else false) = pathB s := by
  rw [int_ge (n := 1) (m := 1) rfl, int_le (n := 256) (m := 256) rfl]
  unfold pathB
  rw [Bool.decide_and]
  cases plainB s <;> cases decide (1 ≤ s.size) <;> rfl
theorem val_1 (s : ByteArray) : (bif plainB s then decide ((s.size : Int) ≤ 131072) else false) = valB s := by
  rw [int_le (n := 131072) (m := 131072) rfl]
  unfold valB
  cases plainB s <;> rfl
attribute [local irreducible] plainB
set_option maxRecDepth 20000 in
theorem path37_D (s : ByteArray) (hs : s.size ≤ 9223372036854775807) : DPure Tryz.prog 37 [strV s] (bl (pathB s)) := by
  have hp := plain65_D s hs
  refine DFun.data (DFun.body Tryz.func37 rfl (by kernel_rfl) ?_)
  repeat' (first | with_reducible rfl | ((conv => whnf); first | refine And.intro ?_ ?_ | (intro h; first | with_reducible exact tf_no h | with_reducible exact ft_no h | exact Bool.noConfusion h | with_reducible exact h | (have ht : true = true := h; clear ht h) | skip) | ((with_reducible refine SCall.mark ?_); first | refine SCall.data (hp) rfl rfl ?_ | refine SCall.scal (hp) rfl rfl ?_) | ((with_reducible refine PCall.mark ?_); first | refine PCall.mk (hp) rfl rfl ?_) | ((with_reducible refine GCall.mark ?_); first | refine GCall.data (fun _ => hp) rfl rfl ?_ | refine GCall.scal (fun _ => hp) rfl rfl ?_) | ((with_reducible refine MCall.mark ?_); first | refine MCall.data (fun _ => hp) rfl rfl ?_ | refine MCall.plain (PCall.mk (hp) rfl rfl ?_)) | ((with_reducible refine ECall.mark ?_); first | refine ECall.only ?_ (fun h => nomatch h) | refine ECall.only ?_ ?_) | ((with_reducible refine Drawn.mark ?_); first | refine Drawn.quiet (by kernel_rfl) ?_) | refine dcell_ok rfl ?_ | refine AppC.new ?_))
  all_goals first | (with_reducible refine enters_mark ?_; kernel_rfl) | (with_reducible refine boolT_mark ?_; kernel_rfl) | rfl | trivial | assumption | exact Nat.le_of_ble_eq_true rfl | (show entersB _ _ = true; kernel_rfl) | exact DW.same _ rfl | exact DW.ref _ _ _ rfl | exact DW.arr _ _ _ rfl | refine DW.int ?_ | refine dvb ?_ | refine dvi ?_ | exact OW.cells rfl rfl (DWl.same rfl) | exact Nat.zero_le _ | omega | skip
  all_goals repeat' (first | refine OW.cells rfl rfl ?_ | exact DW.nilArr _ rfl | refine DWl.cons ?_ ?_ | exact DWl.nil | exact DW.same _ rfl | exact DW.ref _ _ _ rfl | exact DW.arr _ _ _ rfl | exact DW.sub _ _ _ _ rfl | exact DW.mo _ _ rfl | exact DW.nilLst _ | refine DW.aggl ?_ | refine DW.tupl ?_ | refine DW.clol ?_ ?_)
  all_goals try ((conv => whnf); with_reducible first | refine Round.mark ?_ | refine Tells.mark ?_ | refine Retold.mark ?_)
  all_goals try first | (show (_ : Bool) = _; simp_all; done) | (show (_ : Int) < _; simp at *; omega) | (show (_ : Int) ≤ _; simp at *; omega) | (show (_ : Nat) < _; simp at *; omega) | (show (_ : Nat) ≤ _; simp at *; omega)
  conv => whnf
  exact Tells.mk (DW.bool (path_1 s))
set_option maxRecDepth 20000 in
theorem value38_D (s : ByteArray) (hs : s.size ≤ 9223372036854775807) : DPure Tryz.prog 38 [strV s] (bl (valB s)) := by
  have hp := plain65_D s hs
  refine DFun.data (DFun.body Tryz.func38 rfl (by kernel_rfl) ?_)
  repeat' (first | with_reducible rfl | ((conv => whnf); first | refine And.intro ?_ ?_ | (intro h; first | with_reducible exact tf_no h | with_reducible exact ft_no h | exact Bool.noConfusion h | with_reducible exact h | (have ht : true = true := h; clear ht h) | skip) | ((with_reducible refine SCall.mark ?_); first | refine SCall.data (hp) rfl rfl ?_ | refine SCall.scal (hp) rfl rfl ?_) | ((with_reducible refine PCall.mark ?_); first | refine PCall.mk (hp) rfl rfl ?_) | ((with_reducible refine GCall.mark ?_); first | refine GCall.data (fun _ => hp) rfl rfl ?_ | refine GCall.scal (fun _ => hp) rfl rfl ?_) | ((with_reducible refine MCall.mark ?_); first | refine MCall.data (fun _ => hp) rfl rfl ?_ | refine MCall.plain (PCall.mk (hp) rfl rfl ?_)) | ((with_reducible refine ECall.mark ?_); first | refine ECall.only ?_ (fun h => nomatch h) | refine ECall.only ?_ ?_) | ((with_reducible refine Drawn.mark ?_); first | refine Drawn.quiet (by kernel_rfl) ?_) | refine dcell_ok rfl ?_ | refine AppC.new ?_))
  all_goals first | (with_reducible refine enters_mark ?_; kernel_rfl) | (with_reducible refine boolT_mark ?_; kernel_rfl) | rfl | trivial | assumption | exact Nat.le_of_ble_eq_true rfl | (show entersB _ _ = true; kernel_rfl) | exact DW.same _ rfl | exact DW.ref _ _ _ rfl | exact DW.arr _ _ _ rfl | refine DW.int ?_ | refine dvb ?_ | refine dvi ?_ | exact OW.cells rfl rfl (DWl.same rfl) | exact Nat.zero_le _ | omega | skip
  all_goals repeat' (first | refine OW.cells rfl rfl ?_ | exact DW.nilArr _ rfl | refine DWl.cons ?_ ?_ | exact DWl.nil | exact DW.same _ rfl | exact DW.ref _ _ _ rfl | exact DW.arr _ _ _ rfl | exact DW.sub _ _ _ _ rfl | exact DW.mo _ _ rfl | exact DW.nilLst _ | refine DW.aggl ?_ | refine DW.tupl ?_ | refine DW.clol ?_ ?_)
  all_goals try ((conv => whnf); with_reducible first | refine Round.mark ?_ | refine Tells.mark ?_ | refine Retold.mark ?_)
  all_goals try first | (show (_ : Bool) = _; simp_all; done) | (show (_ : Int) < _; simp at *; omega) | (show (_ : Int) ≤ _; simp at *; omega) | (show (_ : Nat) < _; simp at *; omega) | (show (_ : Nat) ≤ _; simp at *; omega)
  conv => whnf
  exact Tells.mk (DW.bool (val_1 s))
set_option maxRecDepth 20000 in
theorem path27_D (s : ByteArray) (hs : s.size ≤ 9223372036854775807) : DPure Tryz.prog 27 [strV s] (bl (pathB s)) := by
  have hp := plain50_D s hs
  refine DFun.data (DFun.body Tryz.func27 rfl (by kernel_rfl) ?_)
  repeat' (first | with_reducible rfl | ((conv => whnf); first | refine And.intro ?_ ?_ | (intro h; first | with_reducible exact tf_no h | with_reducible exact ft_no h | exact Bool.noConfusion h | with_reducible exact h | (have ht : true = true := h; clear ht h) | skip) | ((with_reducible refine SCall.mark ?_); first | refine SCall.data (hp) rfl rfl ?_ | refine SCall.scal (hp) rfl rfl ?_) | ((with_reducible refine PCall.mark ?_); first | refine PCall.mk (hp) rfl rfl ?_) | ((with_reducible refine GCall.mark ?_); first | refine GCall.data (fun _ => hp) rfl rfl ?_ | refine GCall.scal (fun _ => hp) rfl rfl ?_) | ((with_reducible refine MCall.mark ?_); first | refine MCall.data (fun _ => hp) rfl rfl ?_ | refine MCall.plain (PCall.mk (hp) rfl rfl ?_)) | ((with_reducible refine ECall.mark ?_); first | refine ECall.only ?_ (fun h => nomatch h) | refine ECall.only ?_ ?_) | ((with_reducible refine Drawn.mark ?_); first | refine Drawn.quiet (by kernel_rfl) ?_) | refine dcell_ok rfl ?_ | refine AppC.new ?_))
  all_goals first | (with_reducible refine enters_mark ?_; kernel_rfl) | (with_reducible refine boolT_mark ?_; kernel_rfl) | rfl | trivial | assumption | exact Nat.le_of_ble_eq_true rfl | (show entersB _ _ = true; kernel_rfl) | exact DW.same _ rfl | exact DW.ref _ _ _ rfl | exact DW.arr _ _ _ rfl | refine DW.int ?_ | refine dvb ?_ | refine dvi ?_ | exact OW.cells rfl rfl (DWl.same rfl) | exact Nat.zero_le _ | omega | skip
  all_goals repeat' (first | refine OW.cells rfl rfl ?_ | exact DW.nilArr _ rfl | refine DWl.cons ?_ ?_ | exact DWl.nil | exact DW.same _ rfl | exact DW.ref _ _ _ rfl | exact DW.arr _ _ _ rfl | exact DW.sub _ _ _ _ rfl | exact DW.mo _ _ rfl | exact DW.nilLst _ | refine DW.aggl ?_ | refine DW.tupl ?_ | refine DW.clol ?_ ?_)
  all_goals try ((conv => whnf); with_reducible first | refine Round.mark ?_ | refine Tells.mark ?_ | refine Retold.mark ?_)
  all_goals try first | (show (_ : Bool) = _; simp_all; done) | (show (_ : Int) < _; simp at *; omega) | (show (_ : Int) ≤ _; simp at *; omega) | (show (_ : Nat) < _; simp at *; omega) | (show (_ : Nat) ≤ _; simp at *; omega)
  conv => whnf
  exact Tells.mk (DW.bool (path_2 s))
set_option maxRecDepth 20000 in
theorem value28_D (s : ByteArray) (hs : s.size ≤ 9223372036854775807) : DPure Tryz.prog 28 [strV s] (bl (valB s)) := by
  have hp := plain50_D s hs
  refine DFun.data (DFun.body Tryz.func28 rfl (by kernel_rfl) ?_)
  repeat' (first | with_reducible rfl | ((conv => whnf); first | refine And.intro ?_ ?_ | (intro h; first | with_reducible exact tf_no h | with_reducible exact ft_no h | exact Bool.noConfusion h | with_reducible exact h | (have ht : true = true := h; clear ht h) | skip) | ((with_reducible refine SCall.mark ?_); first | refine SCall.data (hp) rfl rfl ?_ | refine SCall.scal (hp) rfl rfl ?_) | ((with_reducible refine PCall.mark ?_); first | refine PCall.mk (hp) rfl rfl ?_) | ((with_reducible refine GCall.mark ?_); first | refine GCall.data (fun _ => hp) rfl rfl ?_ | refine GCall.scal (fun _ => hp) rfl rfl ?_) | ((with_reducible refine MCall.mark ?_); first | refine MCall.data (fun _ => hp) rfl rfl ?_ | refine MCall.plain (PCall.mk (hp) rfl rfl ?_)) | ((with_reducible refine ECall.mark ?_); first | refine ECall.only ?_ (fun h => nomatch h) | refine ECall.only ?_ ?_) | ((with_reducible refine Drawn.mark ?_); first | refine Drawn.quiet (by kernel_rfl) ?_) | refine dcell_ok rfl ?_ | refine AppC.new ?_))
  all_goals first | (with_reducible refine enters_mark ?_; kernel_rfl) | (with_reducible refine boolT_mark ?_; kernel_rfl) | rfl | trivial | assumption | exact Nat.le_of_ble_eq_true rfl | (show entersB _ _ = true; kernel_rfl) | exact DW.same _ rfl | exact DW.ref _ _ _ rfl | exact DW.arr _ _ _ rfl | refine DW.int ?_ | refine dvb ?_ | refine dvi ?_ | exact OW.cells rfl rfl (DWl.same rfl) | exact Nat.zero_le _ | omega | skip
  all_goals repeat' (first | refine OW.cells rfl rfl ?_ | exact DW.nilArr _ rfl | refine DWl.cons ?_ ?_ | exact DWl.nil | exact DW.same _ rfl | exact DW.ref _ _ _ rfl | exact DW.arr _ _ _ rfl | exact DW.sub _ _ _ _ rfl | exact DW.mo _ _ rfl | exact DW.nilLst _ | refine DW.aggl ?_ | refine DW.tupl ?_ | refine DW.clol ?_ ?_)
  all_goals try ((conv => whnf); with_reducible first | refine Round.mark ?_ | refine Tells.mark ?_ | refine Retold.mark ?_)
  all_goals try first | (show (_ : Bool) = _; simp_all; done) | (show (_ : Int) < _; simp at *; omega) | (show (_ : Int) ≤ _; simp at *; omega) | (show (_ : Nat) < _; simp at *; omega) | (show (_ : Nat) ≤ _; simp at *; omega)
  conv => whnf
  exact Tells.mk (DW.bool (val_1 s))
end Go.Proofs.YtagfmppjlfhmeaaGreatDoor
namespace Go.Proofs.YtagfmppjlfhmeaaGreatDoor
open Go.RowKit Go.Dl
attribute [local irreducible] Tri SCall TSem ECall Drawn DFun QSem PSem PCall GCall MCall Round Weak dloadE OW DWl Tells IntKind.wrap Retold ESem
def SmL (l : List Lf) : Prop := l.length ≤ 4194304 ∧ ∀ x ∈ l, x.p.size ≤ 1048576 ∧ x.v.size ≤ 1048576
def SmC (l : List Ch) : Prop := l.length ≤ 4194304 ∧ ∀ x ∈ l, x.p.size ≤ 1048576 ∧ x.was.size ≤ 1048576 ∧ x.is.size ≤ 1048576
def badL (l : List Lf) (i : Nat) : Bool := bif bif !pathB (l.getD i lf0).p then true else !valB (l.getD i lf0).v then true else bif decide (0 < (i : Int)) then !ltB (l.getD (i - 1) lf0).p (l.getD i lf0).p else false
def fitLB (l : List Lf) : Bool := decide (∀ i, i < l.length → badL l i = false)
def FlI (l : List Lf) (k : Nat) : Prop := k ≤ l.length ∧ ∀ i, i < k → badL l i = false
def fl14 (l : List Lf) (k : Nat) : St := ⟨0, tmOf [(0, lfs l), (5, lfs l), (6, int1 (l.map lfD).length), (7, int1 k)], .of [] 0⟩
def fl7 (l : List Lf) (k : Nat) : St := ⟨0, tmOf [(0, lfs l), (3, int1 k)], .of [] 0⟩
theorem sml_at {l : List Lf} (h : SmL l) (i : Nat) : (l.getD i lf0).p.size ≤ 9223372036854775807 ∧ (l.getD i lf0).v.size ≤ 9223372036854775807 := by
  rw [List.getD_eq_getElem?_getD]
  cases e : l[i]? with
  | none => exact ⟨Nat.zero_le _, Nat.zero_le _⟩
  | some x =>
    have := h.2 x (List.mem_of_getElem? e)
    exact ⟨Nat.le_trans this.1 (by decide), Nat.le_trans this.2 (by decide)⟩
theorem smc_at {l : List Ch} (h : SmC l) (i : Nat) : (l.getD i ch0).p.size ≤ 9223372036854775807 ∧ (l.getD i ch0).was.size ≤ 9223372036854775807 ∧ (l.getD i ch0).is.size ≤ 9223372036854775807 := by
  rw [List.getD_eq_getElem?_getD]
  cases e : l[i]? with
  | none => exact ⟨Nat.zero_le _, Nat.zero_le _, Nat.zero_le _⟩
  | some x =>
    have := h.2 x (List.mem_of_getElem? e)
    exact ⟨Nat.le_trans this.1 (by decide), Nat.le_trans this.2.1 (by decide), Nat.le_trans this.2.2 (by decide)⟩
theorem tnb {b : Bool} (h : (true && !b) = true) : (b == false) = true := by cases b; rfl; cases h
theorem gdd {b : Bool} (h : (b == false) = true) : (b == false && b == false) = true := by rw [h]; rfl
theorem gde {b c : Bool} (h : (b == false && c) = true) : (b == false && b == false && c == true) = true := by
  cases b <;> cases c <;> first | rfl | cases h
theorem gpos {b c : Bool} {k : Int} (h : (b && c && decide (0 < k) == true) = true) : 0 < k := by
  by_cases hk : 0 < k
  · exact hk
  · rw [decide_eq_false hk] at h; cases b <;> cases c <;> cases h
theorem wpred {k : Nat} (h : 0 < (k : Int)) (hk : k ≤ 9223372036854775807) : IntKind.i64.wrap ((k : Int) - 1) = ((k - 1 : Nat) : Int) := by
  rw [wrapI (by omega) (by omega)]; omega
theorem wp_1 {k : Nat} {b c : Bool} (hk : k ≤ 9223372036854775807) (h : (b && c && decide (0 < (k : Int)) == true) = true) : 0 ≤ IntKind.i64.wrap ((k : Int) - 1) := by
  rw [wpred (gpos h) hk]; omega
theorem wp_2 {k n : Nat} {b c : Bool} (hk : k ≤ 9223372036854775807) (hn : k < n) (h : (b && c && decide (0 < (k : Int)) == true) = true) : IntKind.i64.wrap ((k : Int) - 1) < (n : Int) := by
  rw [wpred (gpos h) hk]; omega
theorem wp_3 {k n : Nat} {b c : Bool} (hk : k ≤ 9223372036854775807) (hn : k < n) (h : (b && c && decide (0 < (k : Int)) == true) = true) : (IntKind.i64.wrap ((k : Int) - 1)).toNat < n := by
  rw [wpred (gpos h) hk, Int.toNat_natCast]; omega
theorem wp_e {k : Nat} (hk : k ≤ 9223372036854775807) (f : Nat → Bool) : (bif decide (0 < (k : Int)) then f (IntKind.i64.wrap ((k : Int) - 1)).toNat else false) = bif decide (0 < (k : Int)) then f (k - 1) else false := by
  by_cases h : 0 < (k : Int)
  · rw [wpred h hk, Int.toNat_natCast]
  · rw [decide_eq_false h]; rfl
theorem bad_l {l : List Lf} {k : Nat} (hk : k ≤ 9223372036854775807) : (bif bif !pathB (l.getD k lf0).p then true else !valB (l.getD k lf0).v then true else bif decide (0 < (k : Int)) then !Op.bytesLess (l.getD (IntKind.i64.wrap ((k : Int) - 1)).toNat lf0).p.toList (l.getD (k : Int).toNat lf0).p.toList else false) = badL l k := by
  rw [wp_e hk fun j => !Op.bytesLess (l.getD j lf0).p.toList (l.getD (k : Int).toNat lf0).p.toList]; rfl
theorem fl_bad {l : List Lf} {k : Nat} (hk : k < l.length) (h : badL l k = true) : fitLB l = false := by
  unfold fitLB
  exact decide_eq_false fun hc => by rw [hc k hk] at h; cases h
theorem fl_next {l : List Lf} {k : Nat} (hi : FlI l k) (hk : k < l.length) (h : badL l k = false) : FlI l (k + 1) := by
  refine ⟨hk, fun i h1 => ?_⟩
  by_cases e : i = k
  · subst e; exact h
  · exact hi.2 i (by omega)
theorem fl_end {l : List Lf} {k : Nat} (hi : FlI l k) (h : ¬ k < l.length) : fitLB l = true := by
  unfold fitLB
  exact decide_eq_true fun i h1 => hi.2 i (by have := hi.1; omega)
theorem lt_map {α β : Type} {f : α → β} {l : List α} {k : Nat} (h : k < l.length) : (k : Int) < (((l.map f).length : Nat) : Int) := by rw [List.length_map]; omega
theorem nlt_map {α β : Type} {f : α → β} {l : List α} {k : Nat} (h : ¬ k < l.length) : ¬ (k : Int) < (((l.map f).length : Nat) : Int) := by rw [List.length_map]; omega
attribute [local irreducible] pathB valB
set_option maxRecDepth 20000 in
set_option maxHeartbeats 1000000 in
theorem fit14_D (l : List Lf) (hl : SmL l) : DPure Tryz.prog 14 [lfs l] (bl (fitLB l)) := by
  refine DFun.data (DFun.body Tryz.func14 rfl (by kernel_rfl) ?_)
  repeat' (first | with_reducible rfl | ((conv => whnf); first | refine And.intro ?_ ?_ | (intro h; first | with_reducible exact tf_no h | with_reducible exact ft_no h | exact Bool.noConfusion h | with_reducible exact h | (have ht : true = true := h; clear ht h) | skip) | ((with_reducible refine ECall.mark ?_); first | refine ECall.only ?_ (fun h => nomatch h) | refine ECall.only ?_ ?_) | ((with_reducible refine Drawn.mark ?_); first | refine Drawn.quiet (by kernel_rfl) ?_) | refine dloadE_map (lf0) ?_ ?_ | refine dcell_ok rfl ?_ | refine AppC.new ?_))
  all_goals first | (with_reducible refine enters_mark ?_; kernel_rfl) | (with_reducible refine boolT_mark ?_; kernel_rfl) | rfl | trivial | assumption | exact Nat.le_of_ble_eq_true rfl | (show entersB _ _ = true; kernel_rfl) | exact DW.same _ rfl | exact DW.ref _ _ _ rfl | exact DW.arr _ _ _ rfl | refine DW.int ?_ | refine dvb ?_ | refine dvi ?_ | exact OW.cells rfl rfl (DWl.same rfl) | exact Nat.zero_le _ | omega | skip
  all_goals repeat' (first | refine OW.cells rfl rfl ?_ | exact DW.nilArr _ rfl | refine DWl.cons ?_ ?_ | exact DWl.nil | exact DW.same _ rfl | exact DW.ref _ _ _ rfl | exact DW.arr _ _ _ rfl | exact DW.sub _ _ _ _ rfl | exact DW.mo _ _ rfl | exact DW.nilLst _ | refine DW.aggl ?_ | refine DW.tupl ?_ | refine DW.clol ?_ ?_)
  all_goals try ((conv => whnf); with_reducible first | refine Round.mark ?_ | refine Tells.mark ?_ | refine Retold.mark ?_)
  all_goals try first | (show (_ : Bool) = _; simp_all; done) | (show (_ : Int) < _; simp at *; omega) | (show (_ : Int) ≤ _; simp at *; omega) | (show (_ : Nat) < _; simp at *; omega) | (show (_ : Nat) ≤ _; simp at *; omega)
  conv => whnf
  refine Tri.loop (fl14 l) (FlI l) (fun k => l.length - k) 0 (by kernel_rfl) (Weak.list [] [] (by kernel_rfl) ?_ ?_) ⟨Nat.zero_le _, fun _ h => by cases h⟩ ?_
  iterate 2 · repeat' (first | exact DW.same _ rfl | exact DW.ref _ _ _ rfl | exact DW.arr _ _ _ rfl | exact OW.cells rfl rfl (DWl.same rfl) | refine OW.cells rfl rfl ?_ | refine DWl.cons ?_ ?_ | exact DWl.nil | exact DW.nilArr _ rfl | exact DW.nilLst _ | refine DW.clol ?_ ?_ | refine DW.aggl ?_ | refine DW.tupl ?_ | refine DW.int ?_ | refine DW.bool ?_ | refine DW.str ?_ | refine DW.arrE rfl ?_ | ((conv => whnf); first | refine And.intro ?_ ?_ | trivial))
  intro k hk
  have hp := path37_D _ (sml_at hl k).1
  have hv := value38_D _ (sml_at hl k).2
  have hl2 : k ≤ 4194304 := Nat.le_trans hk.1 hl.1
  have hl3 : k ≤ 9223372036854775807 := by omega
  have hll : l.length ≤ 9223372036854775807 := Nat.le_trans hl.1 (by decide)
  show dcode _ _ _ _ (fl14 l k) _
  by_cases hkl : k < l.length
  · have hlt := lt_map (f := lfD) hkl
    repeat' (first | with_reducible rfl | ((conv => whnf); first | refine And.intro ?_ ?_ | (intro h; first | with_reducible exact tf_no h | with_reducible exact ft_no h | exact Bool.noConfusion h | with_reducible exact h | (exfalso; exact of_decide_eq_false h hlt) | (have ht : true = true := h; clear ht h) | skip) | ((with_reducible refine SCall.mark ?_); first | refine SCall.data (hp) rfl rfl ?_ | refine SCall.scal (hp) rfl rfl ?_ | refine SCall.data (hv) rfl rfl ?_ | refine SCall.scal (hv) rfl rfl ?_) | ((with_reducible refine PCall.mark ?_); first | refine PCall.mk (hp) rfl rfl ?_ | refine PCall.mk (hv) rfl rfl ?_) | ((with_reducible refine GCall.mark ?_); first | refine GCall.data (fun _ => hp) rfl rfl ?_ | refine GCall.scal (fun _ => hp) rfl rfl ?_ | refine GCall.data (fun _ => hv) rfl rfl ?_ | refine GCall.scal (fun _ => hv) rfl rfl ?_) | ((with_reducible refine MCall.mark ?_); first | refine MCall.data (fun _ => hp) rfl rfl ?_ | refine MCall.plain (PCall.mk (hp) rfl rfl ?_) | refine MCall.data (fun _ => hv) rfl rfl ?_ | refine MCall.plain (PCall.mk (hv) rfl rfl ?_)) | ((with_reducible refine ECall.mark ?_); first | refine ECall.only ?_ (fun h => nomatch h) | refine ECall.only ?_ ?_) | ((with_reducible refine Drawn.mark ?_); first | refine Drawn.quiet (by kernel_rfl) ?_) | refine dloadE_map (lf0) ?_ ?_ | refine dcell_ok rfl ?_ | refine AppC.new ?_))
    all_goals try ((conv => whnf); with_reducible refine Round.mark ?_)
    all_goals try first | ((with_reducible show Option.isSome (slElem _ _) = true); kernel_rfl) | ((with_reducible show slElem _ _ = some _); kernel_rfl) | ((with_reducible refine enters_mark ?_); kernel_rfl) | (with_reducible assumption) | ((with_reducible show List.all _ DV.one = true); rfl) | ((with_reducible show (_ : Nat) = _); rfl) | ((with_reducible show (_ == true) = true); first | (simp; done) | simpa using h) | ((with_reducible show (_ : Nat) ≤ _); exact Nat.le_of_ble_eq_true rfl) | ((with_reducible show (_ : Int) ≤ _); first | omega | decide) | ((with_reducible show (_ : Int) < _); first | omega | decide) | ((with_reducible show (_ : Nat) < _); omega) | ((with_reducible show (_ : Nat) ≤ _); omega)
    all_goals try (first | (with_reducible exact tnb h) | (with_reducible exact gdd h) | (with_reducible exact gde h) | (with_reducible exact hkl) | (with_reducible exact wp_1 hl3 h) | (exact wp_2 hl3 (by rw [List.length_map]; exact hkl) h; done) | (exact wp_3 hl3 hkl h; done))
    · conv => whnf
      exact Tells.mk (DW.bool (fl_bad hkl ((bad_l hl3).symm.trans h)).symm)
    · refine Round.go (· + 1) (fl_next hk hkl ((bad_l hl3).symm.trans h)) (by show l.length - (k + 1) < l.length - k; omega) (Weak.list [] [] (by kernel_rfl) ?_ ?_)
      iterate 2 · repeat' (first | exact wsucc hkl hll | exact DW.same _ rfl | exact DW.ref _ _ _ rfl | exact DW.arr _ _ _ rfl | exact OW.cells rfl rfl (DWl.same rfl) | refine OW.cells rfl rfl ?_ | refine DWl.cons ?_ ?_ | exact DWl.nil | exact DW.nilArr _ rfl | exact DW.nilLst _ | refine DW.clol ?_ ?_ | refine DW.aggl ?_ | refine DW.tupl ?_ | refine DW.int ?_ | refine DW.bool ?_ | refine DW.str ?_ | refine DW.arrE rfl ?_ | ((conv => whnf); first | refine And.intro ?_ ?_ | trivial))
  · repeat' (first | with_reducible rfl | ((conv => whnf); first | refine And.intro ?_ ?_ | (intro h; first | with_reducible exact tf_no h | with_reducible exact ft_no h | exact Bool.noConfusion h | with_reducible exact h | (exfalso; exact nlt_map hkl (of_decide_eq_true h)) | (have ht : true = true := h; clear ht h) | skip) | ((with_reducible refine SCall.mark ?_); first | refine SCall.data (hp) rfl rfl ?_ | refine SCall.scal (hp) rfl rfl ?_ | refine SCall.data (hv) rfl rfl ?_ | refine SCall.scal (hv) rfl rfl ?_) | ((with_reducible refine PCall.mark ?_); first | refine PCall.mk (hp) rfl rfl ?_ | refine PCall.mk (hv) rfl rfl ?_) | ((with_reducible refine GCall.mark ?_); first | refine GCall.data (fun _ => hp) rfl rfl ?_ | refine GCall.scal (fun _ => hp) rfl rfl ?_ | refine GCall.data (fun _ => hv) rfl rfl ?_ | refine GCall.scal (fun _ => hv) rfl rfl ?_) | ((with_reducible refine MCall.mark ?_); first | refine MCall.data (fun _ => hp) rfl rfl ?_ | refine MCall.plain (PCall.mk (hp) rfl rfl ?_) | refine MCall.data (fun _ => hv) rfl rfl ?_ | refine MCall.plain (PCall.mk (hv) rfl rfl ?_)) | ((with_reducible refine ECall.mark ?_); first | refine ECall.only ?_ (fun h => nomatch h) | refine ECall.only ?_ ?_) | ((with_reducible refine Drawn.mark ?_); first | refine Drawn.quiet (by kernel_rfl) ?_) | refine dloadE_map (lf0) ?_ ?_ | refine dcell_ok rfl ?_ | refine AppC.new ?_))
    all_goals try first | ((with_reducible show Option.isSome (slElem _ _) = true); kernel_rfl) | ((with_reducible show slElem _ _ = some _); kernel_rfl) | ((with_reducible refine enters_mark ?_); kernel_rfl) | (with_reducible assumption) | ((with_reducible show List.all _ DV.one = true); rfl) | ((with_reducible show (_ : Nat) = _); rfl) | ((with_reducible show (_ == true) = true); first | (simp; done) | simpa using h) | ((with_reducible show (_ : Nat) ≤ _); exact Nat.le_of_ble_eq_true rfl) | ((with_reducible show (_ : Int) ≤ _); first | omega | decide) | ((with_reducible show (_ : Int) < _); first | omega | decide) | ((with_reducible show (_ : Nat) < _); omega) | ((with_reducible show (_ : Nat) ≤ _); omega)
    conv => whnf
    exact Tells.mk (DW.bool (fl_end hk hkl).symm)
set_option maxRecDepth 20000 in
set_option maxHeartbeats 1000000 in
theorem fit7_D (l : List Lf) (hl : SmL l) : DPure Tryz.prog 7 [lfs l] (bl (fitLB l)) := by
  refine DFun.data (DFun.body Tryz.func7 rfl (by kernel_rfl) ?_)
  repeat' (first | with_reducible rfl | ((conv => whnf); first | refine And.intro ?_ ?_ | (intro h; first | with_reducible exact tf_no h | with_reducible exact ft_no h | exact Bool.noConfusion h | with_reducible exact h | (have ht : true = true := h; clear ht h) | skip) | ((with_reducible refine ECall.mark ?_); first | refine ECall.only ?_ (fun h => nomatch h) | refine ECall.only ?_ ?_) | ((with_reducible refine Drawn.mark ?_); first | refine Drawn.quiet (by kernel_rfl) ?_) | refine dloadE_map (lf0) ?_ ?_ | refine dcell_ok rfl ?_ | refine AppC.new ?_))
  all_goals first | (with_reducible refine enters_mark ?_; kernel_rfl) | (with_reducible refine boolT_mark ?_; kernel_rfl) | rfl | trivial | assumption | exact Nat.le_of_ble_eq_true rfl | (show entersB _ _ = true; kernel_rfl) | exact DW.same _ rfl | exact DW.ref _ _ _ rfl | exact DW.arr _ _ _ rfl | refine DW.int ?_ | refine dvb ?_ | refine dvi ?_ | exact OW.cells rfl rfl (DWl.same rfl) | exact Nat.zero_le _ | omega | skip
  all_goals repeat' (first | refine OW.cells rfl rfl ?_ | exact DW.nilArr _ rfl | refine DWl.cons ?_ ?_ | exact DWl.nil | exact DW.same _ rfl | exact DW.ref _ _ _ rfl | exact DW.arr _ _ _ rfl | exact DW.sub _ _ _ _ rfl | exact DW.mo _ _ rfl | exact DW.nilLst _ | refine DW.aggl ?_ | refine DW.tupl ?_ | refine DW.clol ?_ ?_)
  all_goals try ((conv => whnf); with_reducible first | refine Round.mark ?_ | refine Tells.mark ?_ | refine Retold.mark ?_)
  all_goals try first | (show (_ : Bool) = _; simp_all; done) | (show (_ : Int) < _; simp at *; omega) | (show (_ : Int) ≤ _; simp at *; omega) | (show (_ : Nat) < _; simp at *; omega) | (show (_ : Nat) ≤ _; simp at *; omega)
  conv => whnf
  refine Tri.loop (fl7 l) (FlI l) (fun k => l.length - k) 0 (by kernel_rfl) (Weak.list [] [] (by kernel_rfl) ?_ ?_) ⟨Nat.zero_le _, fun _ h => by cases h⟩ ?_
  iterate 2 · repeat' (first | exact DW.same _ rfl | exact DW.ref _ _ _ rfl | exact DW.arr _ _ _ rfl | exact OW.cells rfl rfl (DWl.same rfl) | refine OW.cells rfl rfl ?_ | refine DWl.cons ?_ ?_ | exact DWl.nil | exact DW.nilArr _ rfl | exact DW.nilLst _ | refine DW.clol ?_ ?_ | refine DW.aggl ?_ | refine DW.tupl ?_ | refine DW.int ?_ | refine DW.bool ?_ | refine DW.str ?_ | refine DW.arrE rfl ?_ | ((conv => whnf); first | refine And.intro ?_ ?_ | trivial))
  intro k hk
  have hp := path27_D _ (sml_at hl k).1
  have hv := value28_D _ (sml_at hl k).2
  have hl2 : k ≤ 4194304 := Nat.le_trans hk.1 hl.1
  have hl3 : k ≤ 9223372036854775807 := by omega
  have hll : l.length ≤ 9223372036854775807 := Nat.le_trans hl.1 (by decide)
  show dcode _ _ _ _ (fl7 l k) _
  by_cases hkl : k < l.length
  · have hlt := lt_map (f := lfD) hkl
    repeat' (first | with_reducible rfl | ((conv => whnf); first | refine And.intro ?_ ?_ | (intro h; first | with_reducible exact tf_no h | with_reducible exact ft_no h | exact Bool.noConfusion h | with_reducible exact h | (exfalso; exact of_decide_eq_false h hlt) | (have ht : true = true := h; clear ht h) | skip) | ((with_reducible refine SCall.mark ?_); first | refine SCall.data (hp) rfl rfl ?_ | refine SCall.scal (hp) rfl rfl ?_ | refine SCall.data (hv) rfl rfl ?_ | refine SCall.scal (hv) rfl rfl ?_) | ((with_reducible refine PCall.mark ?_); first | refine PCall.mk (hp) rfl rfl ?_ | refine PCall.mk (hv) rfl rfl ?_) | ((with_reducible refine GCall.mark ?_); first | refine GCall.data (fun _ => hp) rfl rfl ?_ | refine GCall.scal (fun _ => hp) rfl rfl ?_ | refine GCall.data (fun _ => hv) rfl rfl ?_ | refine GCall.scal (fun _ => hv) rfl rfl ?_) | ((with_reducible refine MCall.mark ?_); first | refine MCall.data (fun _ => hp) rfl rfl ?_ | refine MCall.plain (PCall.mk (hp) rfl rfl ?_) | refine MCall.data (fun _ => hv) rfl rfl ?_ | refine MCall.plain (PCall.mk (hv) rfl rfl ?_)) | ((with_reducible refine ECall.mark ?_); first | refine ECall.only ?_ (fun h => nomatch h) | refine ECall.only ?_ ?_) | ((with_reducible refine Drawn.mark ?_); first | refine Drawn.quiet (by kernel_rfl) ?_) | refine dloadE_map (lf0) ?_ ?_ | refine dcell_ok rfl ?_ | refine AppC.new ?_))
    all_goals try ((conv => whnf); with_reducible refine Round.mark ?_)
    all_goals try first | ((with_reducible show Option.isSome (slElem _ _) = true); kernel_rfl) | ((with_reducible show slElem _ _ = some _); kernel_rfl) | ((with_reducible refine enters_mark ?_); kernel_rfl) | (with_reducible assumption) | ((with_reducible show List.all _ DV.one = true); rfl) | ((with_reducible show (_ : Nat) = _); rfl) | ((with_reducible show (_ == true) = true); first | (simp; done) | simpa using h) | ((with_reducible show (_ : Nat) ≤ _); exact Nat.le_of_ble_eq_true rfl) | ((with_reducible show (_ : Int) ≤ _); first | omega | decide) | ((with_reducible show (_ : Int) < _); first | omega | decide) | ((with_reducible show (_ : Nat) < _); omega) | ((with_reducible show (_ : Nat) ≤ _); omega)
    all_goals try (first | (with_reducible exact tnb h) | (with_reducible exact gdd h) | (with_reducible exact gde h) | (with_reducible exact hkl) | (with_reducible exact wp_1 hl3 h) | (exact wp_2 hl3 (by rw [List.length_map]; exact hkl) h; done) | (exact wp_3 hl3 hkl h; done))
    · conv => whnf
      exact Tells.mk (DW.bool (fl_bad hkl ((bad_l hl3).symm.trans h)).symm)
    · refine Round.go (· + 1) (fl_next hk hkl ((bad_l hl3).symm.trans h)) (by show l.length - (k + 1) < l.length - k; omega) (Weak.list [] [] (by kernel_rfl) ?_ ?_)
      iterate 2 · repeat' (first | exact wsucc hkl hll | exact DW.same _ rfl | exact DW.ref _ _ _ rfl | exact DW.arr _ _ _ rfl | exact OW.cells rfl rfl (DWl.same rfl) | refine OW.cells rfl rfl ?_ | refine DWl.cons ?_ ?_ | exact DWl.nil | exact DW.nilArr _ rfl | exact DW.nilLst _ | refine DW.clol ?_ ?_ | refine DW.aggl ?_ | refine DW.tupl ?_ | refine DW.int ?_ | refine DW.bool ?_ | refine DW.str ?_ | refine DW.arrE rfl ?_ | ((conv => whnf); first | refine And.intro ?_ ?_ | trivial))
  · repeat' (first | with_reducible rfl | ((conv => whnf); first | refine And.intro ?_ ?_ | (intro h; first | with_reducible exact tf_no h | with_reducible exact ft_no h | exact Bool.noConfusion h | with_reducible exact h | (exfalso; exact nlt_map hkl (of_decide_eq_true h)) | (have ht : true = true := h; clear ht h) | skip) | ((with_reducible refine SCall.mark ?_); first | refine SCall.data (hp) rfl rfl ?_ | refine SCall.scal (hp) rfl rfl ?_ | refine SCall.data (hv) rfl rfl ?_ | refine SCall.scal (hv) rfl rfl ?_) | ((with_reducible refine PCall.mark ?_); first | refine PCall.mk (hp) rfl rfl ?_ | refine PCall.mk (hv) rfl rfl ?_) | ((with_reducible refine GCall.mark ?_); first | refine GCall.data (fun _ => hp) rfl rfl ?_ | refine GCall.scal (fun _ => hp) rfl rfl ?_ | refine GCall.data (fun _ => hv) rfl rfl ?_ | refine GCall.scal (fun _ => hv) rfl rfl ?_) | ((with_reducible refine MCall.mark ?_); first | refine MCall.data (fun _ => hp) rfl rfl ?_ | refine MCall.plain (PCall.mk (hp) rfl rfl ?_) | refine MCall.data (fun _ => hv) rfl rfl ?_ | refine MCall.plain (PCall.mk (hv) rfl rfl ?_)) | ((with_reducible refine ECall.mark ?_); first | refine ECall.only ?_ (fun h => nomatch h) | refine ECall.only ?_ ?_) | ((with_reducible refine Drawn.mark ?_); first | refine Drawn.quiet (by kernel_rfl) ?_) | refine dloadE_map (lf0) ?_ ?_ | refine dcell_ok rfl ?_ | refine AppC.new ?_))
    all_goals try first | ((with_reducible show Option.isSome (slElem _ _) = true); kernel_rfl) | ((with_reducible show slElem _ _ = some _); kernel_rfl) | ((with_reducible refine enters_mark ?_); kernel_rfl) | (with_reducible assumption) | ((with_reducible show List.all _ DV.one = true); rfl) | ((with_reducible show (_ : Nat) = _); rfl) | ((with_reducible show (_ == true) = true); first | (simp; done) | simpa using h) | ((with_reducible show (_ : Nat) ≤ _); exact Nat.le_of_ble_eq_true rfl) | ((with_reducible show (_ : Int) ≤ _); first | omega | decide) | ((with_reducible show (_ : Int) < _); first | omega | decide) | ((with_reducible show (_ : Nat) < _); omega) | ((with_reducible show (_ : Nat) ≤ _); omega)
    conv => whnf
    exact Tells.mk (DW.bool (fl_end hk hkl).symm)
theorem gt1 {b c : Bool} (h : (b == false && !c) = true) : (b == false && b == false && (!c) == true) = true := by
  cases b <;> cases c <;> first | rfl | cases h
theorem bt_tf {b : Bool} (h1 : b = true) (h2 : b = false) : False := by rw [h1] at h2; cases h2
theorem gt2 {b : Bool} (h : (b == true) = true) : (b == true && b == true) = true := by rw [h]; rfl
theorem gt3 {b c : Bool} (h : (b == true && !c) = true) : (b == true && b == true && c == false) = true := by
  cases b <;> cases c <;> first | rfl | cases h
def oneB (c : Ch) : Bool := pathB c.p && (valB c.was && (valB c.is && ((c.hw || c.hi) && ((c.hw || c.was == emB) && ((c.hi || c.is == emB) && !(c.hw && (c.hi && c.was == c.is)))))))
theorem one_1 {c : Ch} (h : (bif bif !pathB c.p then true else !valB c.was then true else !valB c.is) = true) : oneB c = false := by
  unfold oneB
  cases h1 : pathB c.p <;> cases h2 : valB c.was <;> cases h3 : valB c.is <;> rw [h1, h2, h3] at h <;> first | rfl | cases h
theorem one_2 {c : Ch} (h : (bif !c.hw then !c.hi else false) = true) : oneB c = false := by
  unfold oneB
  cases h1 : c.hw <;> cases h2 : c.hi <;> rw [h1, h2] at h <;> first | cases h; done | skip
  cases pathB c.p <;> cases valB c.was <;> cases valB c.is <;> rfl
theorem one_3 {c : Ch} (h : (bif bif !c.hw then c.was != emB else false then true else bif !c.hi then c.is != emB else false) = true) : oneB c = false := by
  unfold oneB
  unfold bne at h
  cases h1 : c.hw <;> cases h2 : c.hi <;> cases h3 : c.was == emB <;> cases h4 : c.is == emB <;> rw [h1, h2, h3, h4] at h <;> first | cases h; done | skip
  all_goals (cases pathB c.p <;> cases valB c.was <;> cases valB c.is <;> rfl)
theorem one_4 {c : Ch} (h : (bif bif c.hw then c.hi else false then c.was == c.is else false) = true) : oneB c = false := by
  unfold oneB
  cases h1 : c.hw <;> cases h2 : c.hi <;> cases h3 : c.was == c.is <;> rw [h1, h2, h3] at h <;> first | cases h; done | skip
  cases pathB c.p <;> cases valB c.was <;> cases valB c.is <;> rfl
theorem one_5 {c : Ch} (g1 : (bif bif !pathB c.p then true else !valB c.was then true else !valB c.is) = false) (g2 : (bif !c.hw then !c.hi else false) = false)
    (g3 : (bif bif !c.hw then c.was != emB else false then true else bif !c.hi then c.is != emB else false) = false) (g4 : (bif bif c.hw then c.hi else false then c.was == c.is else false) = false) : oneB c = true := by
  unfold oneB
  unfold bne at g3
  cases h1 : pathB c.p <;> cases h2 : valB c.was <;> cases h3 : valB c.is <;> rw [h1, h2, h3] at g1 <;> first | cases g1; done | skip
  cases h1 : c.hw <;> cases h2 : c.hi <;> cases h3 : c.was == emB <;> cases h4 : c.is == emB <;> cases h5 : c.was == c.is <;> rw [h1, h2] at g2 g4 <;> rw [h1, h2, h3, h4] at g3 <;> rw [h5] at g4 <;> first | rfl | cases g2; done | cases g3; done | cases g4; done
theorem one_6 (c : Ch) : (bif bif bif bif bif bif pathB c.p then valB c.was else false then valB c.is else false then bif c.hw then true else c.hi else false then bif c.hw then true else c.was == emB else false then bif c.hi then true else c.is == emB else false then bif bif !c.hw then true else !c.hi then true else c.was != c.is else false) = oneB c := by
  unfold oneB bne
  cases pathB c.p <;> cases valB c.was <;> cases valB c.is <;> cases c.hw <;> cases c.hi <;> cases c.was == emB <;> cases c.is == emB <;> cases c.was == c.is <;> rfl
attribute [local irreducible] oneB
set_option maxRecDepth 20000 in
set_option maxHeartbeats 1000000 in
theorem fit48_D (c : Ch) (h1 : c.p.size ≤ 9223372036854775807) (h2 : c.was.size ≤ 9223372036854775807) (h3 : c.is.size ≤ 9223372036854775807) : DPure Tryz.prog 48 [.agg (chD c)] (bl (oneB c)) := by
  have hp := path37_D _ h1
  have hw := value38_D _ h2
  have hi := value38_D _ h3
  refine DFun.data (DFun.body Tryz.func48 rfl (by kernel_rfl) ?_)
  repeat' (first | with_reducible rfl | ((conv => whnf); first | refine And.intro ?_ ?_ | (intro h; first | with_reducible exact tf_no h | with_reducible exact ft_no h | exact Bool.noConfusion h | with_reducible exact h | (exfalso; exact bt_tf ‹_› h) | (have ht : true = true := h; clear ht h) | skip) | ((with_reducible refine SCall.mark ?_); first | refine SCall.data (hp) rfl rfl ?_ | refine SCall.scal (hp) rfl rfl ?_ | refine SCall.data (hw) rfl rfl ?_ | refine SCall.scal (hw) rfl rfl ?_ | refine SCall.data (hi) rfl rfl ?_ | refine SCall.scal (hi) rfl rfl ?_) | ((with_reducible refine PCall.mark ?_); first | refine PCall.mk (hp) rfl rfl ?_ | refine PCall.mk (hw) rfl rfl ?_ | refine PCall.mk (hi) rfl rfl ?_) | ((with_reducible refine GCall.mark ?_); first | refine GCall.data (fun _ => hp) rfl rfl ?_ | refine GCall.scal (fun _ => hp) rfl rfl ?_ | refine GCall.data (fun _ => hw) rfl rfl ?_ | refine GCall.scal (fun _ => hw) rfl rfl ?_ | refine GCall.data (fun _ => hi) rfl rfl ?_ | refine GCall.scal (fun _ => hi) rfl rfl ?_) | ((with_reducible refine MCall.mark ?_); first | refine MCall.data (fun _ => hp) rfl rfl ?_ | refine MCall.plain (PCall.mk (hp) rfl rfl ?_) | refine MCall.data (fun _ => hw) rfl rfl ?_ | refine MCall.plain (PCall.mk (hw) rfl rfl ?_) | refine MCall.data (fun _ => hi) rfl rfl ?_ | refine MCall.plain (PCall.mk (hi) rfl rfl ?_)) | ((with_reducible refine ECall.mark ?_); first | refine ECall.only ?_ (fun h => nomatch h) | refine ECall.only ?_ ?_) | ((with_reducible refine Drawn.mark ?_); first | refine Drawn.quiet (by kernel_rfl) ?_) | refine dcell_ok rfl ?_ | refine AppC.new ?_))
  all_goals try first | ((with_reducible show Option.isSome (slElem _ _) = true); kernel_rfl) | ((with_reducible show slElem _ _ = some _); kernel_rfl) | ((with_reducible refine enters_mark ?_); kernel_rfl) | (with_reducible assumption) | ((with_reducible show List.all _ DV.one = true); rfl) | ((with_reducible show (_ : Nat) = _); rfl) | ((with_reducible show (_ == true) = true); first | (simp; done) | simpa using h) | ((with_reducible show (_ : Nat) ≤ _); exact Nat.le_of_ble_eq_true rfl) | ((with_reducible show (_ : Int) ≤ _); first | omega | decide) | ((with_reducible show (_ : Int) < _); first | omega | decide) | ((with_reducible show (_ : Nat) < _); omega) | ((with_reducible show (_ : Nat) ≤ _); omega)
  all_goals try (first | (with_reducible exact tnb h) | (with_reducible exact gdd h) | (with_reducible exact gt1 h))
  all_goals (conv => whnf)
  · exact Tells.mk (DW.bool (one_1 h).symm)
  · exact Tells.mk (DW.bool (one_2 h).symm)
  · exact Tells.mk (DW.bool (one_3 h).symm)
  · exact Tells.mk (DW.bool (one_4 h).symm)
  · exact Tells.mk (DW.bool (one_5 ‹_› ‹_› ‹_› ‹_›).symm)
set_option maxRecDepth 200000 in
set_option maxHeartbeats 1000000 in
theorem one29_D (c : Ch) (h1 : c.p.size ≤ 9223372036854775807) (h2 : c.was.size ≤ 9223372036854775807) (h3 : c.is.size ≤ 9223372036854775807) : DPure Tryz.prog 29 [.agg (chD c)] (bl (oneB c)) := by
  have hp := path27_D _ h1
  have hw := value28_D _ h2
  have hi := value28_D _ h3
  refine DFun.data (DFun.body Tryz.func29 rfl (by kernel_rfl) ?_)
  repeat' (first | with_reducible rfl | ((conv => whnf); first | refine And.intro ?_ ?_ | (intro h; first | with_reducible exact tf_no h | with_reducible exact ft_no h | exact Bool.noConfusion h | with_reducible exact h | (have ht : true = true := h; clear ht h) | skip) | ((with_reducible refine SCall.mark ?_); first | refine SCall.data (hp) rfl rfl ?_ | refine SCall.scal (hp) rfl rfl ?_ | refine SCall.data (hw) rfl rfl ?_ | refine SCall.scal (hw) rfl rfl ?_ | refine SCall.data (hi) rfl rfl ?_ | refine SCall.scal (hi) rfl rfl ?_) | ((with_reducible refine PCall.mark ?_); first | refine PCall.mk (hp) rfl rfl ?_ | refine PCall.mk (hw) rfl rfl ?_ | refine PCall.mk (hi) rfl rfl ?_) | ((with_reducible refine GCall.mark ?_); first | refine GCall.data (fun _ => hp) rfl rfl ?_ | refine GCall.scal (fun _ => hp) rfl rfl ?_ | refine GCall.data (fun _ => hw) rfl rfl ?_ | refine GCall.scal (fun _ => hw) rfl rfl ?_ | refine GCall.data (fun _ => hi) rfl rfl ?_ | refine GCall.scal (fun _ => hi) rfl rfl ?_) | ((with_reducible refine MCall.mark ?_); first | refine MCall.data (fun _ => hp) rfl rfl ?_ | refine MCall.plain (PCall.mk (hp) rfl rfl ?_) | refine MCall.data (fun _ => hw) rfl rfl ?_ | refine MCall.plain (PCall.mk (hw) rfl rfl ?_) | refine MCall.data (fun _ => hi) rfl rfl ?_ | refine MCall.plain (PCall.mk (hi) rfl rfl ?_)) | ((with_reducible refine ECall.mark ?_); first | refine ECall.only ?_ (fun h => nomatch h) | refine ECall.only ?_ ?_) | ((with_reducible refine Drawn.mark ?_); first | refine Drawn.quiet (by kernel_rfl) ?_) | refine dcell_ok rfl ?_ | refine AppC.new ?_))
  all_goals try first | ((with_reducible show Option.isSome (slElem _ _) = true); kernel_rfl) | ((with_reducible show slElem _ _ = some _); kernel_rfl) | ((with_reducible refine enters_mark ?_); kernel_rfl) | (with_reducible assumption) | ((with_reducible show List.all _ DV.one = true); rfl) | ((with_reducible show (_ : Nat) = _); rfl) | ((with_reducible show (_ == true) = true); first | (simp; done) | simpa using h) | ((with_reducible show (_ : Nat) ≤ _); exact Nat.le_of_ble_eq_true rfl) | ((with_reducible show (_ : Int) ≤ _); first | omega | decide) | ((with_reducible show (_ : Int) < _); first | omega | decide) | ((with_reducible show (_ : Nat) < _); omega) | ((with_reducible show (_ : Nat) ≤ _); omega)
  all_goals try (first | (with_reducible exact tnb h) | (with_reducible exact gt2 h) | (with_reducible exact gt3 h))
  conv => whnf
  exact Tells.mk (DW.bool (one_6 c))
end Go.Proofs.YtagfmppjlfhmeaaGreatDoor
namespace Go.Proofs.YtagfmppjlfhmeaaGreatDoor
open Go.RowKit Go.Dl
attribute [local irreducible] Tri SCall TSem ECall Drawn DFun QSem PSem PCall GCall MCall Round Weak dloadE OW DWl Tells IntKind.wrap Retold ESem
def badC (l : List Ch) (i : Nat) : Bool := bif !oneB (l.getD i ch0) then true else bif decide (0 < (i : Int)) then !ltB (l.getD (i - 1) ch0).p (l.getD i ch0).p else false
def fitCB (l : List Ch) : Bool := decide (∀ i, i < l.length → badC l i = false)
def FcI (l : List Ch) (k : Nat) : Prop := k ≤ l.length ∧ ∀ i, i < k → badC l i = false
def fc24 (l : List Ch) (k : Nat) : St := ⟨0, tmOf [(0, chs l), (5, chs l), (6, int1 (l.map chD).length), (7, int1 k)], .of [] 0⟩
def fc8 (l : List Ch) (k : Nat) : St := ⟨0, tmOf [(0, chs l), (3, int1 k)], .of [] 0⟩
theorem bad_c {l : List Ch} {k : Nat} (hk : k ≤ 9223372036854775807) : (bif !oneB (l.getD k ch0) then true else bif decide (0 < (k : Int)) then !Op.bytesLess (l.getD (IntKind.i64.wrap ((k : Int) - 1)).toNat ch0).p.toList (l.getD (k : Int).toNat ch0).p.toList else false) = badC l k := by
  rw [wp_e hk fun j => !Op.bytesLess (l.getD j ch0).p.toList (l.getD (k : Int).toNat ch0).p.toList]; rfl
theorem fc_bad {l : List Ch} {k : Nat} (hk : k < l.length) (h : badC l k = true) : fitCB l = false := by
  unfold fitCB
  exact decide_eq_false fun hc => by rw [hc k hk] at h; cases h
theorem fc_next {l : List Ch} {k : Nat} (hi : FcI l k) (hk : k < l.length) (h : badC l k = false) : FcI l (k + 1) := by
  refine ⟨hk, fun i h1 => ?_⟩
  by_cases e : i = k
  · subst e; exact h
  · exact hi.2 i (by omega)
theorem fc_end {l : List Ch} {k : Nat} (hi : FcI l k) (h : ¬ k < l.length) : fitCB l = true := by
  unfold fitCB
  exact decide_eq_true fun i h1 => hi.2 i (by have := hi.1; omega)
attribute [local irreducible] oneB
set_option maxRecDepth 20000 in
set_option maxHeartbeats 1000000 in
theorem chg24_D (l : List Ch) (hl : SmC l) : DPure Tryz.prog 24 [chs l] (bl (fitCB l)) := by
  refine DFun.data (DFun.body Tryz.func24 rfl (by kernel_rfl) ?_)
  repeat' (first | with_reducible rfl | ((conv => whnf); first | refine And.intro ?_ ?_ | (intro h; first | with_reducible exact tf_no h | with_reducible exact ft_no h | exact Bool.noConfusion h | with_reducible exact h | (have ht : true = true := h; clear ht h) | skip) | ((with_reducible refine ECall.mark ?_); first | refine ECall.only ?_ (fun h => nomatch h) | refine ECall.only ?_ ?_) | ((with_reducible refine Drawn.mark ?_); first | refine Drawn.quiet (by kernel_rfl) ?_) | refine dloadE_map (ch0) ?_ ?_ | refine dcell_ok rfl ?_ | refine AppC.new ?_))
  all_goals first | (with_reducible refine enters_mark ?_; kernel_rfl) | (with_reducible refine boolT_mark ?_; kernel_rfl) | rfl | trivial | assumption | exact Nat.le_of_ble_eq_true rfl | (show entersB _ _ = true; kernel_rfl) | exact DW.same _ rfl | exact DW.ref _ _ _ rfl | exact DW.arr _ _ _ rfl | refine DW.int ?_ | refine dvb ?_ | refine dvi ?_ | exact OW.cells rfl rfl (DWl.same rfl) | exact Nat.zero_le _ | omega | skip
  all_goals repeat' (first | refine OW.cells rfl rfl ?_ | exact DW.nilArr _ rfl | refine DWl.cons ?_ ?_ | exact DWl.nil | exact DW.same _ rfl | exact DW.ref _ _ _ rfl | exact DW.arr _ _ _ rfl | exact DW.sub _ _ _ _ rfl | exact DW.mo _ _ rfl | exact DW.nilLst _ | refine DW.aggl ?_ | refine DW.tupl ?_ | refine DW.clol ?_ ?_)
  all_goals try ((conv => whnf); with_reducible first | refine Round.mark ?_ | refine Tells.mark ?_ | refine Retold.mark ?_)
  all_goals try first | (show (_ : Bool) = _; simp_all; done) | (show (_ : Int) < _; simp at *; omega) | (show (_ : Int) ≤ _; simp at *; omega) | (show (_ : Nat) < _; simp at *; omega) | (show (_ : Nat) ≤ _; simp at *; omega)
  conv => whnf
  refine Tri.loop (fc24 l) (FcI l) (fun k => l.length - k) 0 (by kernel_rfl) (Weak.list [] [] (by kernel_rfl) ?_ ?_) ⟨Nat.zero_le _, fun _ h => by cases h⟩ ?_
  iterate 2 · repeat' (first | exact DW.same _ rfl | exact DW.ref _ _ _ rfl | exact DW.arr _ _ _ rfl | exact OW.cells rfl rfl (DWl.same rfl) | refine OW.cells rfl rfl ?_ | refine DWl.cons ?_ ?_ | exact DWl.nil | exact DW.nilArr _ rfl | exact DW.nilLst _ | refine DW.clol ?_ ?_ | refine DW.aggl ?_ | refine DW.tupl ?_ | refine DW.int ?_ | refine DW.bool ?_ | refine DW.str ?_ | refine DW.arrE rfl ?_ | ((conv => whnf); first | refine And.intro ?_ ?_ | trivial))
  intro k hk
  have hp := fit48_D (l.getD k ch0) (smc_at hl k).1 (smc_at hl k).2.1 (smc_at hl k).2.2
  have hl2 : k ≤ 4194304 := Nat.le_trans hk.1 hl.1
  have hl3 : k ≤ 9223372036854775807 := by omega
  have hll : l.length ≤ 9223372036854775807 := Nat.le_trans hl.1 (by decide)
  show dcode _ _ _ _ (fc24 l k) _
  by_cases hkl : k < l.length
  · have hlt := lt_map (f := chD) hkl
    repeat' (first | with_reducible rfl | ((conv => whnf); first | refine And.intro ?_ ?_ | (intro h; first | with_reducible exact tf_no h | with_reducible exact ft_no h | exact Bool.noConfusion h | with_reducible exact h | (exfalso; exact of_decide_eq_false h hlt) | (have ht : true = true := h; clear ht h) | skip) | ((with_reducible refine SCall.mark ?_); first | refine SCall.data (hp) rfl rfl ?_ | refine SCall.scal (hp) rfl rfl ?_) | ((with_reducible refine PCall.mark ?_); first | refine PCall.mk (hp) rfl rfl ?_) | ((with_reducible refine GCall.mark ?_); first | refine GCall.data (fun _ => hp) rfl rfl ?_ | refine GCall.scal (fun _ => hp) rfl rfl ?_) | ((with_reducible refine MCall.mark ?_); first | refine MCall.data (fun _ => hp) rfl rfl ?_ | refine MCall.plain (PCall.mk (hp) rfl rfl ?_)) | ((with_reducible refine ECall.mark ?_); first | refine ECall.only ?_ (fun h => nomatch h) | refine ECall.only ?_ ?_) | ((with_reducible refine Drawn.mark ?_); first | refine Drawn.quiet (by kernel_rfl) ?_) | refine dloadE_map (ch0) ?_ ?_ | refine dcell_ok rfl ?_ | refine AppC.new ?_))
    all_goals try ((conv => whnf); with_reducible refine Round.mark ?_)
    all_goals try first | ((with_reducible show Option.isSome (slElem _ _) = true); kernel_rfl) | ((with_reducible show slElem _ _ = some _); kernel_rfl) | ((with_reducible refine enters_mark ?_); kernel_rfl) | (with_reducible assumption) | ((with_reducible show List.all _ DV.one = true); rfl) | ((with_reducible show (_ : Nat) = _); rfl) | ((with_reducible show (_ == true) = true); first | (simp; done) | simpa using h) | ((with_reducible show (_ : Nat) ≤ _); exact Nat.le_of_ble_eq_true rfl) | ((with_reducible show (_ : Int) ≤ _); first | omega | decide) | ((with_reducible show (_ : Int) < _); first | omega | decide) | ((with_reducible show (_ : Nat) < _); omega) | ((with_reducible show (_ : Nat) ≤ _); omega)
    all_goals try (first | (with_reducible exact tnb h) | (with_reducible exact gdd h) | (with_reducible exact gde h) | (with_reducible exact hkl) | (with_reducible exact wp_1 hl3 h) | (exact wp_2 hl3 (by rw [List.length_map]; exact hkl) h; done) | (exact wp_3 hl3 hkl h; done))
    · conv => whnf
      exact Tells.mk (DW.bool (fc_bad hkl ((bad_c hl3).symm.trans h)).symm)
    · refine Round.go (· + 1) (fc_next hk hkl ((bad_c hl3).symm.trans h)) (by show l.length - (k + 1) < l.length - k; omega) (Weak.list [] [] (by kernel_rfl) ?_ ?_)
      iterate 2 · repeat' (first | exact wsucc hkl hll | exact DW.same _ rfl | exact DW.ref _ _ _ rfl | exact DW.arr _ _ _ rfl | exact OW.cells rfl rfl (DWl.same rfl) | refine OW.cells rfl rfl ?_ | refine DWl.cons ?_ ?_ | exact DWl.nil | exact DW.nilArr _ rfl | exact DW.nilLst _ | refine DW.clol ?_ ?_ | refine DW.aggl ?_ | refine DW.tupl ?_ | refine DW.int ?_ | refine DW.bool ?_ | refine DW.str ?_ | refine DW.arrE rfl ?_ | ((conv => whnf); first | refine And.intro ?_ ?_ | trivial))
  · repeat' (first | with_reducible rfl | ((conv => whnf); first | refine And.intro ?_ ?_ | (intro h; first | with_reducible exact tf_no h | with_reducible exact ft_no h | exact Bool.noConfusion h | with_reducible exact h | (exfalso; exact nlt_map hkl (of_decide_eq_true h)) | (have ht : true = true := h; clear ht h) | skip) | ((with_reducible refine SCall.mark ?_); first | refine SCall.data (hp) rfl rfl ?_ | refine SCall.scal (hp) rfl rfl ?_) | ((with_reducible refine PCall.mark ?_); first | refine PCall.mk (hp) rfl rfl ?_) | ((with_reducible refine GCall.mark ?_); first | refine GCall.data (fun _ => hp) rfl rfl ?_ | refine GCall.scal (fun _ => hp) rfl rfl ?_) | ((with_reducible refine MCall.mark ?_); first | refine MCall.data (fun _ => hp) rfl rfl ?_ | refine MCall.plain (PCall.mk (hp) rfl rfl ?_)) | ((with_reducible refine ECall.mark ?_); first | refine ECall.only ?_ (fun h => nomatch h) | refine ECall.only ?_ ?_) | ((with_reducible refine Drawn.mark ?_); first | refine Drawn.quiet (by kernel_rfl) ?_) | refine dloadE_map (ch0) ?_ ?_ | refine dcell_ok rfl ?_ | refine AppC.new ?_))
    all_goals try first | ((with_reducible show Option.isSome (slElem _ _) = true); kernel_rfl) | ((with_reducible show slElem _ _ = some _); kernel_rfl) | ((with_reducible refine enters_mark ?_); kernel_rfl) | (with_reducible assumption) | ((with_reducible show List.all _ DV.one = true); rfl) | ((with_reducible show (_ : Nat) = _); rfl) | ((with_reducible show (_ == true) = true); first | (simp; done) | simpa using h) | ((with_reducible show (_ : Nat) ≤ _); exact Nat.le_of_ble_eq_true rfl) | ((with_reducible show (_ : Int) ≤ _); first | omega | decide) | ((with_reducible show (_ : Int) < _); first | omega | decide) | ((with_reducible show (_ : Nat) < _); omega) | ((with_reducible show (_ : Nat) ≤ _); omega)
    conv => whnf
    exact Tells.mk (DW.bool (fc_end hk hkl).symm)
set_option maxRecDepth 20000 in
set_option maxHeartbeats 1000000 in
theorem chg8_D (l : List Ch) (hl : SmC l) : DPure Tryz.prog 8 [chs l] (bl (fitCB l)) := by
  refine DFun.data (DFun.body Tryz.func8 rfl (by kernel_rfl) ?_)
  repeat' (first | with_reducible rfl | ((conv => whnf); first | refine And.intro ?_ ?_ | (intro h; first | with_reducible exact tf_no h | with_reducible exact ft_no h | exact Bool.noConfusion h | with_reducible exact h | (have ht : true = true := h; clear ht h) | skip) | ((with_reducible refine ECall.mark ?_); first | refine ECall.only ?_ (fun h => nomatch h) | refine ECall.only ?_ ?_) | ((with_reducible refine Drawn.mark ?_); first | refine Drawn.quiet (by kernel_rfl) ?_) | refine dloadE_map (ch0) ?_ ?_ | refine dcell_ok rfl ?_ | refine AppC.new ?_))
  all_goals first | (with_reducible refine enters_mark ?_; kernel_rfl) | (with_reducible refine boolT_mark ?_; kernel_rfl) | rfl | trivial | assumption | exact Nat.le_of_ble_eq_true rfl | (show entersB _ _ = true; kernel_rfl) | exact DW.same _ rfl | exact DW.ref _ _ _ rfl | exact DW.arr _ _ _ rfl | refine DW.int ?_ | refine dvb ?_ | refine dvi ?_ | exact OW.cells rfl rfl (DWl.same rfl) | exact Nat.zero_le _ | omega | skip
  all_goals repeat' (first | refine OW.cells rfl rfl ?_ | exact DW.nilArr _ rfl | refine DWl.cons ?_ ?_ | exact DWl.nil | exact DW.same _ rfl | exact DW.ref _ _ _ rfl | exact DW.arr _ _ _ rfl | exact DW.sub _ _ _ _ rfl | exact DW.mo _ _ rfl | exact DW.nilLst _ | refine DW.aggl ?_ | refine DW.tupl ?_ | refine DW.clol ?_ ?_)
  all_goals try ((conv => whnf); with_reducible first | refine Round.mark ?_ | refine Tells.mark ?_ | refine Retold.mark ?_)
  all_goals try first | (show (_ : Bool) = _; simp_all; done) | (show (_ : Int) < _; simp at *; omega) | (show (_ : Int) ≤ _; simp at *; omega) | (show (_ : Nat) < _; simp at *; omega) | (show (_ : Nat) ≤ _; simp at *; omega)
  conv => whnf
  refine Tri.loop (fc8 l) (FcI l) (fun k => l.length - k) 0 (by kernel_rfl) (Weak.list [] [] (by kernel_rfl) ?_ ?_) ⟨Nat.zero_le _, fun _ h => by cases h⟩ ?_
  iterate 2 · repeat' (first | exact DW.same _ rfl | exact DW.ref _ _ _ rfl | exact DW.arr _ _ _ rfl | exact OW.cells rfl rfl (DWl.same rfl) | refine OW.cells rfl rfl ?_ | refine DWl.cons ?_ ?_ | exact DWl.nil | exact DW.nilArr _ rfl | exact DW.nilLst _ | refine DW.clol ?_ ?_ | refine DW.aggl ?_ | refine DW.tupl ?_ | refine DW.int ?_ | refine DW.bool ?_ | refine DW.str ?_ | refine DW.arrE rfl ?_ | ((conv => whnf); first | refine And.intro ?_ ?_ | trivial))
  intro k hk
  have hp := one29_D (l.getD k ch0) (smc_at hl k).1 (smc_at hl k).2.1 (smc_at hl k).2.2
  have hl2 : k ≤ 4194304 := Nat.le_trans hk.1 hl.1
  have hl3 : k ≤ 9223372036854775807 := by omega
  have hll : l.length ≤ 9223372036854775807 := Nat.le_trans hl.1 (by decide)
  show dcode _ _ _ _ (fc8 l k) _
  by_cases hkl : k < l.length
  · have hlt := lt_map (f := chD) hkl
    repeat' (first | with_reducible rfl | ((conv => whnf); first | refine And.intro ?_ ?_ | (intro h; first | with_reducible exact tf_no h | with_reducible exact ft_no h | exact Bool.noConfusion h | with_reducible exact h | (exfalso; exact of_decide_eq_false h hlt) | (have ht : true = true := h; clear ht h) | skip) | ((with_reducible refine SCall.mark ?_); first | refine SCall.data (hp) rfl rfl ?_ | refine SCall.scal (hp) rfl rfl ?_) | ((with_reducible refine PCall.mark ?_); first | refine PCall.mk (hp) rfl rfl ?_) | ((with_reducible refine GCall.mark ?_); first | refine GCall.data (fun _ => hp) rfl rfl ?_ | refine GCall.scal (fun _ => hp) rfl rfl ?_) | ((with_reducible refine MCall.mark ?_); first | refine MCall.data (fun _ => hp) rfl rfl ?_ | refine MCall.plain (PCall.mk (hp) rfl rfl ?_)) | ((with_reducible refine ECall.mark ?_); first | refine ECall.only ?_ (fun h => nomatch h) | refine ECall.only ?_ ?_) | ((with_reducible refine Drawn.mark ?_); first | refine Drawn.quiet (by kernel_rfl) ?_) | refine dloadE_map (ch0) ?_ ?_ | refine dcell_ok rfl ?_ | refine AppC.new ?_))
    all_goals try ((conv => whnf); with_reducible refine Round.mark ?_)
    all_goals try first | ((with_reducible show Option.isSome (slElem _ _) = true); kernel_rfl) | ((with_reducible show slElem _ _ = some _); kernel_rfl) | ((with_reducible refine enters_mark ?_); kernel_rfl) | (with_reducible assumption) | ((with_reducible show List.all _ DV.one = true); rfl) | ((with_reducible show (_ : Nat) = _); rfl) | ((with_reducible show (_ == true) = true); first | (simp; done) | simpa using h) | ((with_reducible show (_ : Nat) ≤ _); exact Nat.le_of_ble_eq_true rfl) | ((with_reducible show (_ : Int) ≤ _); first | omega | decide) | ((with_reducible show (_ : Int) < _); first | omega | decide) | ((with_reducible show (_ : Nat) < _); omega) | ((with_reducible show (_ : Nat) ≤ _); omega)
    all_goals try (first | (with_reducible exact tnb h) | (with_reducible exact gdd h) | (with_reducible exact gde h) | (with_reducible exact hkl) | (with_reducible exact wp_1 hl3 h) | (exact wp_2 hl3 (by rw [List.length_map]; exact hkl) h; done) | (exact wp_3 hl3 hkl h; done))
    · conv => whnf
      exact Tells.mk (DW.bool (fc_bad hkl ((bad_c hl3).symm.trans h)).symm)
    · refine Round.go (· + 1) (fc_next hk hkl ((bad_c hl3).symm.trans h)) (by show l.length - (k + 1) < l.length - k; omega) (Weak.list [] [] (by kernel_rfl) ?_ ?_)
      iterate 2 · repeat' (first | exact wsucc hkl hll | exact DW.same _ rfl | exact DW.ref _ _ _ rfl | exact DW.arr _ _ _ rfl | exact OW.cells rfl rfl (DWl.same rfl) | refine OW.cells rfl rfl ?_ | refine DWl.cons ?_ ?_ | exact DWl.nil | exact DW.nilArr _ rfl | exact DW.nilLst _ | refine DW.clol ?_ ?_ | refine DW.aggl ?_ | refine DW.tupl ?_ | refine DW.int ?_ | refine DW.bool ?_ | refine DW.str ?_ | refine DW.arrE rfl ?_ | ((conv => whnf); first | refine And.intro ?_ ?_ | trivial))
  · repeat' (first | with_reducible rfl | ((conv => whnf); first | refine And.intro ?_ ?_ | (intro h; first | with_reducible exact tf_no h | with_reducible exact ft_no h | exact Bool.noConfusion h | with_reducible exact h | (exfalso; exact nlt_map hkl (of_decide_eq_true h)) | (have ht : true = true := h; clear ht h) | skip) | ((with_reducible refine SCall.mark ?_); first | refine SCall.data (hp) rfl rfl ?_ | refine SCall.scal (hp) rfl rfl ?_) | ((with_reducible refine PCall.mark ?_); first | refine PCall.mk (hp) rfl rfl ?_) | ((with_reducible refine GCall.mark ?_); first | refine GCall.data (fun _ => hp) rfl rfl ?_ | refine GCall.scal (fun _ => hp) rfl rfl ?_) | ((with_reducible refine MCall.mark ?_); first | refine MCall.data (fun _ => hp) rfl rfl ?_ | refine MCall.plain (PCall.mk (hp) rfl rfl ?_)) | ((with_reducible refine ECall.mark ?_); first | refine ECall.only ?_ (fun h => nomatch h) | refine ECall.only ?_ ?_) | ((with_reducible refine Drawn.mark ?_); first | refine Drawn.quiet (by kernel_rfl) ?_) | refine dloadE_map (ch0) ?_ ?_ | refine dcell_ok rfl ?_ | refine AppC.new ?_))
    all_goals try first | ((with_reducible show Option.isSome (slElem _ _) = true); kernel_rfl) | ((with_reducible show slElem _ _ = some _); kernel_rfl) | ((with_reducible refine enters_mark ?_); kernel_rfl) | (with_reducible assumption) | ((with_reducible show List.all _ DV.one = true); rfl) | ((with_reducible show (_ : Nat) = _); rfl) | ((with_reducible show (_ == true) = true); first | (simp; done) | simpa using h) | ((with_reducible show (_ : Nat) ≤ _); exact Nat.le_of_ble_eq_true rfl) | ((with_reducible show (_ : Int) ≤ _); first | omega | decide) | ((with_reducible show (_ : Int) < _); first | omega | decide) | ((with_reducible show (_ : Nat) < _); omega) | ((with_reducible show (_ : Nat) ≤ _); omega)
    conv => whnf
    exact Tells.mk (DW.bool (fc_end hk hkl).symm)
theorem eqL_len {α : Type} [DecidableEq α] {f : α → List DV} {a b : List α} (h : ((((a.map f).length : Nat) : Int) != ((b.map f).length : Nat)) = true) : false = decide (a = b) := by
  symm
  rw [decide_eq_false_iff_not]
  intro e; subst e; simp at h
theorem eqL_lenF {α : Type} {f : α → List DV} {a b : List α} (h : ((((a.map f).length : Nat) : Int) != ((b.map f).length : Nat)) = false) : a.length = b.length := by simp at h; omega
theorem eqL_at {α : Type} [DecidableEq α] {a b : List α} {d : α} {k : Nat} (h : a.getD k d ≠ b.getD k d) : false = decide (a = b) := by
  symm
  rw [decide_eq_false_iff_not]
  intro e; subst e; exact h rfl
theorem eqL_all {α : Type} [DecidableEq α] {a b : List α} {k : Nat} (hl : a.length = b.length) (hk : k ≤ a.length ∧ a.take k = b.take k) (h : a.length ≤ k) : true = decide (a = b) := by
  symm
  have h4 := hk.2
  rw [List.take_of_length_le h, List.take_of_length_le (by omega)] at h4
  simp [h4]
theorem cells_lf (x y : Lf) : cellsEq [strV x.p, strV x.v] [strV y.p, strV y.v] = decide (x = y) := by
  show (x.p == y.p && (x.v == y.v && true)) = _
  rw [Bool.eq_iff_iff, decide_eq_true_iff, Bool.and_eq_true, Bool.and_eq_true, ba_eq, ba_eq]
  exact ⟨fun h => lf_ext h.1 h.2.1, fun h => by subst h; exact ⟨rfl, rfl, rfl⟩⟩
theorem cells_ch (x y : Ch) : cellsEq [strV x.p, bl x.hw, strV x.was, bl x.hi, strV x.is] [strV y.p, bl y.hw, strV y.was, bl y.hi, strV y.is] = decide (x = y) := by
  show (x.p == y.p && (x.hw == y.hw && (x.was == y.was && (x.hi == y.hi && (x.is == y.is && true))))) = _
  rw [Bool.eq_iff_iff, decide_eq_true_iff]
  simp only [Bool.and_eq_true, ba_eq, beq_iff_eq]
  constructor
  · intro h
    cases x; cases y
    simp only at h
    obtain ⟨rfl, rfl, rfl, rfl, rfl, _⟩ := h
    rfl
  · intro h; subst h; exact ⟨rfl, rfl, rfl, rfl, rfl, trivial⟩
theorem ne_1 {α : Type} [DecidableEq α] {x y : α} {b : Bool} (e : b = decide (x = y)) (h : (!b) = true) : x ≠ y := fun k => by rw [e, decide_eq_true k] at h; cases h
theorem ne_2 {α : Type} [DecidableEq α] {x y : α} {b : Bool} (e : b = decide (x = y)) (h : (!b) = false) : x = y := Classical.byContradiction fun k => by rw [e, decide_eq_false k] at h; cases h
theorem k35 : eqTK Tryz.prog 35 = some [.str, .str] := by kernel_rfl
theorem k56 : eqTK Tryz.prog 56 = some [.str, .bool, .str, .bool, .str] := by kernel_rfl
def slSt (a b : List Lf) (k : Nat) : St := ⟨0, tmOf [(0, lfs a), (1, lfs b), (5, int1 k)], .of [] 0⟩
def scSt (a b : List Ch) (k : Nat) : St := ⟨0, tmOf [(0, chs a), (1, chs b), (5, int1 k)], .of [] 0⟩
set_option maxRecDepth 20000 in
theorem same13_D (a b : List Lf) (ha : a.length ≤ 9223372036854775807) : DPure Tryz.prog 13 [lfs a, lfs b] (bl (decide (a = b))) := by
  refine DFun.body Tryz.func13 rfl (by kernel_rfl) ?_
  repeat' (first | with_reducible rfl | ((conv => whnf); first | refine And.intro ?_ ?_ | (intro h; first | with_reducible exact tf_no h | with_reducible exact ft_no h | exact Bool.noConfusion h | with_reducible exact h | (have ht : true = true := h; clear ht h) | skip) | ((with_reducible refine DWl.mark ?_); repeat' (first | refine DWl.cons ?_ ?_ | exact DWl.nil | exact DW.same _ rfl | exact DW.ref _ _ _ rfl | exact DW.arr _ _ _ rfl | exact DW.sub _ _ _ _ rfl | exact DW.mo _ _ rfl | exact DW.nilLst _ | refine DW.aggl ?_ | refine DW.tupl ?_ | refine DW.clol ?_ ?_ | refine DW.int ?_ | refine DW.bool ?_ | refine DW.str ?_)) | ((with_reducible refine Tri.mark ?_); first | refine Tri.loop (slSt a b) (fun k => k ≤ a.length ∧ a.take k = b.take k) (fun k => a.length - k) (0) (by kernel_rfl) (Weak.list [] [] ?_ ?_ ?_) ?_ ?_) | ((with_reducible refine Round.mark ?_); first | refine Round.go ((· + 1)) ?_ ?_ (Weak.list [] [] ?_ ?_ ?_)) | ((with_reducible refine ex_mark ?_); first | refine dq_eql k35 ?_ rfl ?_ rfl rfl ?_ | refine dq_neq k35 ?_ rfl ?_ rfl rfl ?_) | ((with_reducible refine ECall.mark ?_); first | refine ECall.only ?_ (fun h => nomatch h) | refine ECall.only ?_ ?_) | ((with_reducible refine Drawn.mark ?_); first | refine Drawn.quiet (by kernel_rfl) ?_) | refine dloadE_map (lf0) ?_ ?_ | refine dcell_ok rfl ?_ | refine AppC.new ?_))
  all_goals first | (with_reducible refine enters_mark ?_; kernel_rfl) | (with_reducible refine boolT_mark ?_; kernel_rfl) | rfl | trivial | assumption | exact Nat.le_of_ble_eq_true rfl | (show entersB _ _ = true; kernel_rfl) | exact DW.same _ rfl | exact DW.ref _ _ _ rfl | exact DW.arr _ _ _ rfl | refine DW.int ?_ | refine dvb ?_ | refine dvi ?_ | exact OW.cells rfl rfl (DWl.same rfl) | skip
  all_goals repeat' (first | exact OW.cells rfl rfl (DWl.same rfl) | refine OW.cells rfl rfl ?_ | exact DW.nilArr _ rfl | refine DW.clol ?_ ?_ | refine DWl.cons ?_ ?_ | exact DWl.nil | exact DW.same _ rfl | exact DW.ref _ _ _ rfl | exact DW.arr _ _ _ rfl | refine DW.int ?_)
  all_goals try (simp_all; done)
  all_goals try (simp at *; omega)
  · exact eqL_len h
  · exact eqL_at (ne_1 (cells_lf _ _) h)
  · rename_i e0 k hk e1
    exact take_succ_eq (d := lf0) (eqL_lenF e0) hk.2 (lt_of_test e1) (ne_2 (cells_lf _ _) h)
  · rename_i e0 k hk e1
    exact wsucc (lt_of_test e1) ha
  · rename_i e0 k hk
    exact eqL_all (eqL_lenF e0) hk (ge_of_test h)
set_option maxRecDepth 20000 in
theorem same17_D (a b : List Ch) (ha : a.length ≤ 9223372036854775807) : DPure Tryz.prog 17 [chs a, chs b] (bl (decide (a = b))) := by
  refine DFun.body Tryz.func17 rfl (by kernel_rfl) ?_
  repeat' (first | with_reducible rfl | ((conv => whnf); first | refine And.intro ?_ ?_ | (intro h; first | with_reducible exact tf_no h | with_reducible exact ft_no h | exact Bool.noConfusion h | with_reducible exact h | (have ht : true = true := h; clear ht h) | skip) | ((with_reducible refine DWl.mark ?_); repeat' (first | refine DWl.cons ?_ ?_ | exact DWl.nil | exact DW.same _ rfl | exact DW.ref _ _ _ rfl | exact DW.arr _ _ _ rfl | exact DW.sub _ _ _ _ rfl | exact DW.mo _ _ rfl | exact DW.nilLst _ | refine DW.aggl ?_ | refine DW.tupl ?_ | refine DW.clol ?_ ?_ | refine DW.int ?_ | refine DW.bool ?_ | refine DW.str ?_)) | ((with_reducible refine Tri.mark ?_); first | refine Tri.loop (scSt a b) (fun k => k ≤ a.length ∧ a.take k = b.take k) (fun k => a.length - k) (0) (by kernel_rfl) (Weak.list [] [] ?_ ?_ ?_) ?_ ?_) | ((with_reducible refine Round.mark ?_); first | refine Round.go ((· + 1)) ?_ ?_ (Weak.list [] [] ?_ ?_ ?_)) | ((with_reducible refine ex_mark ?_); first | refine dq_eql k56 ?_ rfl ?_ rfl rfl ?_ | refine dq_neq k56 ?_ rfl ?_ rfl rfl ?_) | ((with_reducible refine ECall.mark ?_); first | refine ECall.only ?_ (fun h => nomatch h) | refine ECall.only ?_ ?_) | ((with_reducible refine Drawn.mark ?_); first | refine Drawn.quiet (by kernel_rfl) ?_) | refine dloadE_map (ch0) ?_ ?_ | refine dcell_ok rfl ?_ | refine AppC.new ?_))
  all_goals first | (with_reducible refine enters_mark ?_; kernel_rfl) | (with_reducible refine boolT_mark ?_; kernel_rfl) | rfl | trivial | assumption | exact Nat.le_of_ble_eq_true rfl | (show entersB _ _ = true; kernel_rfl) | exact DW.same _ rfl | exact DW.ref _ _ _ rfl | exact DW.arr _ _ _ rfl | refine DW.int ?_ | refine dvb ?_ | refine dvi ?_ | exact OW.cells rfl rfl (DWl.same rfl) | skip
  all_goals repeat' (first | exact OW.cells rfl rfl (DWl.same rfl) | refine OW.cells rfl rfl ?_ | exact DW.nilArr _ rfl | refine DW.clol ?_ ?_ | refine DWl.cons ?_ ?_ | exact DWl.nil | exact DW.same _ rfl | exact DW.ref _ _ _ rfl | exact DW.arr _ _ _ rfl | refine DW.int ?_)
  all_goals try (simp_all; done)
  all_goals try (simp at *; omega)
  · exact eqL_len h
  · exact eqL_at (ne_1 (cells_ch _ _) h)
  · rename_i e0 k hk e1
    exact take_succ_eq (d := ch0) (eqL_lenF e0) hk.2 (lt_of_test e1) (ne_2 (cells_ch _ _) h)
  · rename_i e0 k hk e1
    exact wsucc (lt_of_test e1) ha
  · rename_i e0 k hk
    exact eqL_all (eqL_lenF e0) hk (ge_of_test h)
end Go.Proofs.YtagfmppjlfhmeaaGreatDoor
