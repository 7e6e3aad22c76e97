/- strings.Builder: copyCheck, String, as calls over objects. -/
import Derived.Test.YtlchjjchgebfiaaGreatDoorPkA
import Derived.Test.YtlchjjchgebfiaaGreatDoorDl32
import Derived.Shelf.Strings.Builder1

namespace Go.Proofs.YtlchjjchgebfiaaGreatDoor
open Go Go.RowKit Go.Dl
theorem cells65 : Tryz.prog.cellsOf 65 = 2 := by kernel_rfl
theorem depthS : ∃ d, Tryz.prog.depth = d + 1 := ⟨Tryz.prog.depth - 1, by kernel_rfl⟩
theorem lies65 (c : Nat) (hc : 1 ≤ c) : liesAt Tryz.prog Tryz.prog.depth 65 (c * 2 / Tryz.prog.cellsOf 65) 0 65 1 = true := by
  obtain ⟨d, hd⟩ := depthS
  have e1 : c * 2 / Tryz.prog.cellsOf 65 = c := by rw [cells65]; omega
  have e2 : sameLayout Tryz.prog Tryz.prog.depth 65 65 = true := by rw [hd]; simp [sameLayout]
  rw [e1, hd, liesAt, hd, rowAt, ← hd, e2, cells65]
  simp [hc]

set_option maxRecDepth 100000 in
set_option maxHeartbeats 1000000 in
theorem cc_fresh (b c : Nat) (w : World) (h0 : w.cell? ⟨b, 0, none⟩ = some (.pointer none)) (hc : 1 ≤ c) (hsh : w.shape? b = some (65, c * 2)) (hfz : w.frozen? ⟨b, 0, none⟩ = false) :
    Calls Tryz.prog 70 #[.pointer (some ⟨b, 0, none⟩)] w fun e w' => e = .returned (.tuple #[]) ∧ w' = w.setCell ⟨b, 0, none⟩ (.pointer (some ⟨b, 0, none⟩)) := by
  obtain ⟨j, hj, hjs⟩ := Option.map_eq_some_iff.1 extraJ.sizeBuilder
  have hj : Tryz.prog.info? 65 = some j := hj
  have mixed := Tryz.laysJoin.mixed
  go_enter Tryz.func70, Tryz.ntmps70
  go_wp2
  rw [Lib.run_to_unsafe w ⟨b, 0, none⟩ Tryz.underlying62 Tryz.underlying137 hj (by rw [hjs]; decide) hsh (by show 0 < c * 2; omega)]
  simp only [Result.andThen]
  rw [Oper.upon_value]
  go_wp2
  rw [run_callFunc_extern Tryz.func101 (by kernel_rfl) (by kernel_rfl) (by kernel_rfl) (e := Extern.AbiNoEscape.same) (by kernel_rfl)]
  rw [Lib.run_noEscape]
  simp only [Result.andThen]
  rw [Oper.upon_value]
  go_wp2
  rw [Lib.run_from_unsafe w ⟨b, 0, none⟩ Tryz.underlying137 Tryz.underlying62 hj hsh (lies65 c hc)]
  simp only [Result.andThen]
  rw [Oper.upon_value]
  go_wp2
  go_end0
  exact ⟨rfl, rfl⟩
theorem SRel.spoil {w0 : World} {F0 : Nat → Prop} {s : Sto} {β : Beta} {w : World} (h : SRel w0 F0 s β w) (j : Nat) (o : DObj) (hob : s.ob j = some o) (b c : Nat) (hb : β j = some (some (b, c)))
    (w' : World) (hbel : BelowD b w w') (hoth : ∀ k, k ≠ b → w'.heap[k]? = w.heap[k]?) :
    SRel w0 F0 ⟨upd s.ob j none, s.nx⟩ β w' ∧ ∀ n, Ext n w0 nX s β w ⟨upd s.ob j none, s.nx⟩ β w' := by
  have hge : w0.heap.size ≤ b := by
    rcases h.obs j o hob with k1 | ⟨b2, c2, cur2, k1, k2, _⟩
    · rw [k1.1] at hb; cases hb
    · rw [k1] at hb; cases hb; exact k2
  have hsome : ∀ i, ((upd s.ob j none) i).isSome = true → (s.ob i).isSome = true ∧ i ≠ j := fun i => by
    by_cases e : i = j
    · subst e; simp
    · rw [upd_ne _ _ _ e]; exact fun h => ⟨h, e⟩
  have hnU : ¬ Un w0 s β b := fun hF => by
    rcases hF with hF | hF
    · omega
    · exact hF.2 j c (by simp [hob]) hb
  have hU : ∀ k, Un w0 s β k → Un w0 ⟨upd s.ob j none, s.nx⟩ β k := fun k hF => by
    rcases hF with hF | hF
    · exact .inl hF
    · exact .inr ⟨hF.1, fun i c' hi => hF.2 i c' (hsome i hi).1⟩
  have hext : ∀ n, Ext n w0 nX s β w ⟨upd s.ob j none, s.nx⟩ β w' := fun n => ⟨fun _ _ _ hp => hp, hbel.size, fun k hk _ hF => ⟨hU k hF, hoth k (fun e => hnU (e ▸ hF))⟩⟩
  refine ⟨⟨h.below.trans (hbel.mono hge), fun i oi hi => ?_, fun i k b2 c1 c2 hi hk => h.inj i k b2 c1 c2 (hsome i hi).1 (hsome k hk).1, fun i hi => ?_, fun k hk => h.up k (Nat.le_trans hbel.size hk), fun i b2 c2 hi hb2 => h.own i b2 c2 (hsome i hi).1 hb2, h.gl⟩, hext⟩
  · have hi2 : upd s.ob j none i = some oi := hi
    obtain ⟨hi1, hij⟩ := hsome i (by rw [hi2]; rfl)
    have hi' : s.ob i = some oi := by simpa [upd_ne _ _ _ hij] using hi
    rcases h.obs i oi hi' with k1 | ⟨b2, c2, cur2, k1, k2, k3, k4, k5, k6, k7⟩
    · exact .inl k1
    · refine .inr ⟨b2, c2, cur2, k1, k2, ?_, k4, k5, k6, fun m d hm => ?_⟩
      · rw [hoth b2 (fun e => hij (h.inj i j b2 c2 c (by simp [hi']) (by simp [hob]) k1 (by rw [hb, e])))]
        exact k3
      · obtain ⟨x, hx, hr⟩ := k7 m d hm
        exact ⟨x, hx, RV.ext h (Nat.le_refl _) (hext _) hr⟩
  · have := h.nx i hi
    refine ⟨this.1, ?_⟩
    by_cases e : i = j
    · subst e; simp
    · rw [show (Sto.mk (upd s.ob j none) s.nx).ob i = s.ob i from upd_ne _ _ _ e]; exact this.2
/-- A builder's first cell: no address yet, or its own. -/
def aB (id : Nat) (f : Bool) : DV := bif f then .v (.pointer none) else .ref id 0
set_option maxRecDepth 100000 in
theorem cc70_S {id : Nat} {f : Bool} {b : DV} {s : Sto} {K : DV → Sto → Prop} (hob : s.ob id = some ⟨65, 2, [aB id f, b]⟩) (hK : K (.tup []) ⟨upd s.ob id (some ⟨65, 2, [.ref id 0, b]⟩), s.nx⟩) : SCall Tryz.prog 70 [.ref id 0] s K := fun w0 F0 β w vals hs hx => by
  match vals, hx.1 with
  | [x0], _ =>
  obtain ⟨bk, c, hb, rfl⟩ := rv_ref (hx.2 0 _ _ rfl rfl)
  rcases hs.obs id _ hob with g | ⟨b', c', cur, g1, g2, g3, g4, g5, g6, g7⟩
  · rw [g.1] at hb; cases hb
  rw [g1] at hb
  simp only [Option.some.injEq, Prod.mk.injEq] at hb
  obtain ⟨rfl, rfl⟩ := hb
  obtain ⟨x, hx0, hxr⟩ := g7 0 _ rfl
  have g6 : 2 ≤ cur.size := g6
  have g4 : cur.size = c' * 2 := g4
  have hcell : w.cell? ⟨b', 0, none⟩ = some x := by rw [Lib.cell_of_heap g3]; exact hx0
  obtain ⟨k0, k1, k2, k3⟩ := hs.store1 id _ hob b' c' g1 0 (by simp) (.ref id 0) (.pointer (some ⟨b', 0, none⟩)) (.ref id 0 b' c' g1)
  cases f with
  | true =>
    have hx1 : x = .pointer none := rv_v hxr
    subst hx1
    refine (cc_fresh b' c' w hcell (by omega) (by simp [World.shape?, g3, g4]) (by simp [World.frozen?, g3])).mono fun e w' ⟨he, hw⟩ => ?_
    subst hw
    exact ⟨_, .tup [], _, β, he, hK, k2, k3 _, Nat.le_refl _, .tup [] [] rfl (fun i d x h => by simp at h)⟩
  | false =>
    obtain ⟨b2, c2, h2, rfl⟩ := rv_ref hxr
    rw [g1] at h2
    simp only [Option.some.injEq, Prod.mk.injEq] at h2
    obtain ⟨rfl, rfl⟩ := h2
    refine (Any.Builder_copyCheck_used { Tryz.laysJoin with } extraJ.toX72 b' w hcell).mono fun e w' ⟨he, hw⟩ => ?_
    subst hw
    have hsame : (⟨upd s.ob id (some ⟨65, 2, [.ref id 0, b]⟩), s.nx⟩ : Sto) = s := by
      have h2 : upd s.ob id (some ⟨65, 2, [.ref id 0, b]⟩) = s.ob := by
        funext k
        by_cases e : k = id
        · subst e; rw [upd_same, hob]; rfl
        · rw [upd_ne _ _ _ e]
      rw [h2]
    rw [hsame] at hK
    exact ⟨_, .tup [], s, β, he, hK, hs, .refl, Nat.le_refl _, .tup [] [] rfl (fun i d x h => by simp at h)⟩
end Go.Proofs.YtlchjjchgebfiaaGreatDoor

/- strings.Builder: what it has gathered, as a text. -/
namespace Go.Proofs.YtlchjjchgebfiaaGreatDoor
open Go Go.RowKit Go.Dl
set_option maxHeartbeats 2000000 in
set_option maxRecDepth 100000 in
theorem str_kit (b g cap : Nat) (cur : Array Value) (l : List UInt8) (w : World) (hc1 : w.cell? ⟨b, 1, none⟩ = some (.slice (some ⟨g, 0, none⟩) l.length cap)) (hg : w.heap[g]? = some (.cells cur 5 (0, 0))) (h0 : l ≠ []) (hcap : l.length ≤ cap) (hcm : cap ≤ maxLen) (hcs : l.length ≤ cur.size)
    (hcells : ∀ (j : Nat) x, l[j]? = some x → w.cell? ⟨g, j, none⟩ = some (.int .u8 x.toNat)) :
    Calls Tryz.prog 39 #[.pointer (some ⟨b, 0, none⟩)] w fun e w' => e = .returned (.string ⟨l.toArray⟩) ∧ w' = w.drew.freeze ⟨g, 0, none⟩ l.length := by
  have hl0 : l.length ≠ 0 := by simpa using h0
  have c1 : w.drew.cell? ⟨b, 1, none⟩ = some (.slice (some ⟨g, 0, none⟩) l.length cap) := hc1
  have hSD : (Builtin.unsafeSliceData_ #[63] 120 #[.slice (some ⟨g, 0, none⟩) l.length cap]).run Tryz.prog w.drew = .ok (.pointer (some ⟨g, 0, none⟩)) w.drew :=
    Lib.run_unsafeSliceData_row _ _ _ _ _ _ (by omega)
  have hUS : (Builtin.unsafeString_ #[120, 3] 9 #[.pointer (some ⟨g, 0, none⟩), .int .i64 l.length]).run Tryz.prog w.drew = .ok (.string ⟨l.toArray⟩) (w.drew.freeze ⟨g, 0, none⟩ l.length) := by
    refine Lib.run_unsafeString_row w.drew 120 3 9 5 Tryz.underlying120 extraJ.cellsByte g cur.size (by have hg' : w.drew.heap[g]? = some (.cells cur 5 (0, 0)) := hg; simp [World.shape?, hg']) l h0 (by omega) (by unfold maxLen at hcm; omega) ?_
    intro j x hx
    rw [Addr.add_lit, Nat.zero_add]
    exact hcells j x hx
  have mixed := Tryz.laysJoin.mixed
  clear hcells hg hcap hcm hcs h0 hl0
  go_enter Tryz.func39, Tryz.ntmps39
  go_wp2
  go_region_o
  all_goals (go_wp2; go_ret; exact ⟨rfl, rfl⟩)
theorem str39_S {id j n : Nat} {a : DV} {acc : ByteArray} {s : Sto} {K : DV → Sto → Prop} (hob : s.ob id = some ⟨65, 2, [a, .arr j n]⟩) (hoj : s.ob j = some ⟨5, 1, bytesD acc⟩) (hn : n = acc.size) (h0 : 0 < acc.size)
    (hK : K (.v (.string acc)) ⟨upd (upd s.ob j none) id none, s.nx⟩) : SCall Tryz.prog 39 [.ref id 0] s K := fun w0 F0 β w vals hs hx => by
  match vals, hx.1 with
  | [x0], _ =>
  obtain ⟨bk, c, hb, rfl⟩ := rv_ref (hx.2 0 _ _ rfl rfl)
  rcases hs.obs id _ hob with g | ⟨b', c', cur, g1, g2, g3, g4, g5, g6, g7⟩
  · rw [g.1] at hb; cases hb
  rw [g1] at hb
  simp only [Option.some.injEq, Prod.mk.injEq] at hb
  obtain ⟨rfl, rfl⟩ := hb
  obtain ⟨x1, hx1, hr1⟩ := g7 1 _ rfl
  rcases rv_arr hr1 with ⟨g, cg, hg, hlc, rfl⟩ | ⟨_, hz, _⟩
  case inr => omega
  rcases hs.obs j _ hoj with q | ⟨bg, c2, cur2, q1, q2, q3, q4, q5, q6, q7⟩
  · rw [q.1] at hg; cases hg
  rw [q1] at hg
  simp only [Option.some.injEq, Prod.mk.injEq] at hg
  obtain ⟨rfl, rfl⟩ := hg
  have q4 : cur2.size = c2 * 1 := q4
  have q6 : (bytesD acc).length ≤ cur2.size := q6
  rw [bytesD_len] at q6
  have hsz : acc.data.toList.length = acc.size := sz_len acc
  have hcell1 : w.cell? ⟨b', 1, none⟩ = some (.slice (some ⟨bg, 0, none⟩) acc.data.toList.length c2) := by rw [Lib.cell_of_heap g3, hx1, hn, hsz]
  have hcs : ∀ (k : Nat) x, acc.data.toList[k]? = some x → w.cell? ⟨bg, k, none⟩ = some (.int .u8 x.toNat) := fun k x hk => by
    obtain ⟨y, hy, hr⟩ := q7 k (.v (.int .u8 x.toNat)) (by show (bytesD acc)[k]? = _; simp only [bytesD, Lib.strCells, List.map_map, List.getElem?_map, hk]; rfl)
    rw [Lib.cell_of_heap q3, hy, rv_v hr]
  refine (str_kit b' bg c2 cur2 acc.data.toList w hcell1 q3 (fun e => by rw [e] at hsz; simp at hsz; omega) (by omega) q5 (by omega) hcs).mono fun e w' ⟨he, hw⟩ => ?_
  have hfz : ∀ k, k ≠ bg → w'.heap[k]? = w.heap[k]? := fun k hk => by
    subst hw
    unfold World.freeze
    split
    · rfl
    · simp only [Array.getElem?_modify]
      rw [if_neg (fun e => hk e.symm)]; rfl
  have hbel : BelowD bg w w' := .of (by subst hw; exact Lib.below_freeze (Below.drew (Below.refl bg w)) (p := ⟨bg, 0, none⟩) (Nat.le_refl _) _) (fun e => by cases e)
  obtain ⟨k1, k2⟩ := SRel.spoil hs j _ hoj bg c2 q1 w' hbel hfz
  obtain ⟨d1, d2⟩ := k1.drop id
  exact ⟨_, _, _, β, he, hK, d1, (k2 _).trans (d2 _), Nat.le_refl _, .data (.v _ rfl)⟩
end Go.Proofs.YtlchjjchgebfiaaGreatDoor

/- Write: a cell, as the program writes it. -/
namespace Go.Proofs.YtlchjjchgebfiaaGreatDoor
open Go.RowKit Go.Dl
attribute [local irreducible] Tri SCall TSem ECall Drawn DFun QSem PSem PCall GCall MCall Round Weak dloadE OW DWl Tells IntKind.wrap Retold ESem
def charsB : ByteArray := ⟨#[44, 34, 10, 13]⟩
def quoB : ByteArray := ⟨#[34]⟩
def quo2B : ByteArray := ⟨#[34, 34]⟩
def emB : ByteArray := ⟨#[]⟩
def Asc (s : ByteArray) : Prop := ∀ (j : Nat) b, s.data.toList[j]? = some b → b.toNat < 128
theorem any77_D (s : ByteArray) (hs : s.size < 4294967281) (has : Asc s) : DPure Tryz.prog 77 [strV s, strV charsB] (bl (Lib.containsAny s.data.toList charsB.data.toList)) :=
  DPure.kit (args := [.string s, .string charsB]) fun w _ => (Any.strings_ContainsAny_laid Tryz.laysAny (by kernel_rfl) s charsB w hs (by decide) has (fun j b hb => by
    match j, hb with
    | 0, hb => cases hb; decide
    | 1, hb => cases hb; decide
    | 2, hb => cases hb; decide
    | 3, hb => cases hb; decide)).mono fun e w' ⟨he, hw⟩ => ⟨_, he, hw, fun F hF => .data (.v _ rfl)⟩
def dblQ (b : UInt8) : List UInt8 := if b = 34 then [34, 34] else [b]
theorem rep_ne {b : UInt8} (h : b ≠ 34) (l : List UInt8) (k : Nat) : Lib.replaceK [34] [34, 34] k (b :: l) = b :: Lib.replaceK [34] [34, 34] k l := by
  cases k with
  | zero => rfl
  | succ k =>
    have hb : ¬ (b == 34) = true := fun e => h (beq_iff_eq.1 e)
    have hge := Lib.indexByte_ge l 34
    rw [Lib.replaceK, Lib.replaceK, Lib.index_one, Lib.index_one, Lib.indexByte, if_neg hb]
    by_cases h1 : (Lib.indexByte l 34 == -1) = true
    · rw [if_pos h1, if_pos h1]; rfl
    · have h2 : Lib.indexByte l 34 ≠ -1 := fun e => h1 (beq_iff_eq.2 e)
      have h3 : ¬ (Lib.indexByte l 34 + 1 == -1) = true := fun e => by have := beq_iff_eq.1 e; omega
      have h4 : (Lib.indexByte l 34 + 1).toNat = (Lib.indexByte l 34).toNat + 1 := by omega
      rw [if_neg h1, if_neg h3, if_neg h1, h4]
      rfl
theorem rep_eq (l : List UInt8) (k : Nat) : Lib.replaceK [34] [34, 34] (k + 1) (34 :: l) = 34 :: 34 :: Lib.replaceK [34] [34, 34] k l := by
  rw [Lib.replaceK, Lib.index_one, Lib.indexByte]
  rfl
theorem rep_all : ∀ l : List UInt8, Lib.replaceK [34] [34, 34] (Lib.count l [34]) l = l.flatMap dblQ
  | [] => by
    cases Lib.count [] [34] with
    | zero => rfl
    | succ k => rfl
  | b :: l => by
    by_cases h : b = 34
    · subst h
      rw [Lib.count_cons_eq, Nat.add_comm, rep_eq, rep_all l]; rfl
    · rw [Lib.count_cons_ne b 34 l h, rep_ne h, rep_all l]
      rw [List.flatMap_cons, dblQ, if_neg h]; rfl
theorem rep_quo (l : List UInt8) : Lib.replaceAll l [34] [34, 34] = l.flatMap dblQ := by
  rw [Lib.replaceAll, Lib.replace, if_neg (by decide), Lib.replaceNum, if_pos (Or.inl (by decide)), rep_all]
theorem dbl_len (l : List UInt8) : (l.flatMap dblQ).length ≤ 2 * l.length := by
  induction l with
  | nil => exact Nat.le_refl _
  | cons b l ih =>
    have : (dblQ b).length ≤ 2 := by unfold dblQ; split <;> simp
    rw [List.flatMap_cons, List.length_append, List.length_cons]; omega
theorem any_chars (chars : List UInt8) : ∀ s : List UInt8, Lib.containsAny s chars = s.any fun b => chars.contains b
  | [] => rfl
  | b :: l => by
    have ih := any_chars chars l
    have hge := Lib.indexAny_ge chars l
    unfold Lib.containsAny at ih ⊢
    rw [List.any_cons, Lib.indexAny, ← ih]
    cases h : chars.contains b with
    | true => rfl
    | false =>
      rw [if_neg (by decide), Bool.false_or]
      by_cases h1 : (Lib.indexAny l chars == -1) = true
      · rw [if_pos h1, beq_iff_eq.1 h1]
      · have h2 : Lib.indexAny l chars ≠ -1 := fun e => h1 (beq_iff_eq.2 e)
        rw [if_neg h1, Bool.eq_iff_iff, decide_eq_true_eq, decide_eq_true_eq]; omega
def repQ (s : ByteArray) : ByteArray := bs (s.data.toList.flatMap dblQ)
theorem bs_size (l : List UInt8) : (bs l).size = l.length := by show l.toArray.size = _; simp
theorem repQ_size (s : ByteArray) : (repQ s).size ≤ 2 * s.size := by
  rw [repQ, bs_size]
  have := dbl_len s.data.toList
  rw [sz_len] at this; exact this
/-- Is a byte of a cell one that asks for quotes? -/
def spc (b : UInt8) : Bool := b == 44 || (b == 34 || (b == 10 || b == 13))
theorem any_spc (s : ByteArray) : Lib.containsAny s.data.toList charsB.data.toList = s.data.toList.any spc := by
  rw [any_chars]
  congr 1
  funext b
  simp [charsB, spc]
  rfl
theorem extraP : Builder.Extra Tryz.prog Tryz.laysReplace_ren where
  sizeBuilder := by kernel_rfl
  liesBuilder := by kernel_rfl
  t5 := Tryz.underlying5
  a5 := Tryz.isAgg5
  z5 := Tryz.sizeOf5
  v5 := Tryz.zeroValue5
  infoByte := by kernel_rfl
  cellsByte := by kernel_rfl
  sizeByte := by kernel_rfl
  neB5 := by decide
theorem rep78_D (s : ByteArray) (hs : s.size ≤ 1024) : DPure Tryz.prog 78 [strV s, strV quoB, strV quo2B] (strV (repQ s)) := by
  refine DPure.kit (args := [.string s, .string quoB, .string quo2B]) fun w hg => ?_
  obtain ⟨⟨m, h1⟩, _⟩ := hg
  have hc := Lib.countB_le quoB (by decide) s.size s (Nat.le_refl _)
  exact (Any.strings_ReplaceAll { Tryz.laysReplace with } extraP s quoB quo2B m w (by omega) h1 (by decide) (by show s.size + Lib.countB s quoB * 2 ≤ _; omega)).mono fun e w' ⟨he, hw⟩ => ⟨_, he.trans (by rw [show Lib.replaceAll s.data.toList quoB.data.toList quo2B.data.toList = s.data.toList.flatMap dblQ from rep_quo _]; rfl), hw, fun F hF => .data (.v _ rfl)⟩
def wrT (s : ByteArray) (alone : Bool) : Bool := bif s.data.toList.any spc then true else bif s == emB then alone else false
def wrB (s : ByteArray) (alone : Bool) : ByteArray := bif wrT s alone then quoB ++ repQ s ++ quoB else s
theorem wr_yes {s : ByteArray} {alone : Bool} (h : wrT s alone = true) : strV (quoB ++ repQ s ++ quoB) = strV (wrB s alone) := by rw [wrB, h]; rfl
theorem wr_no {s : ByteArray} {alone : Bool} (h : wrT s alone = false) : strV s = strV (wrB s alone) := by rw [wrB, h]; rfl
theorem wrB_size (s : ByteArray) (alone : Bool) : (wrB s alone).size ≤ 2 * s.size + 2 := by
  have := repQ_size s
  unfold wrB
  cases wrT s alone with
  | true => show (quoB ++ repQ s ++ quoB).size ≤ _
            rw [ByteArray.size_append, ByteArray.size_append]
            have : quoB.size = 1 := rfl
            omega
  | false => show s.size ≤ _; omega
attribute [local irreducible] repQ
set_option maxRecDepth 20000 in
theorem wr45_D (s : ByteArray) (alone : Bool) (hs : s.size ≤ 1024) (ha : Asc s) : DPure Tryz.prog 45 [strV s, bl alone] (strV (wrB s alone)) := by
  have hr := repQ_size s
  have hany := any77_D s (by omega) ha
  rw [any_spc] at hany
  refine DFun.body Tryz.func45 rfl (by kernel_rfl) ?_
  repeat' (first | with_reducible rfl | ((conv => whnf); first | refine And.intro ?_ ?_ | (intro h; first | with_reducible exact tf_no h | with_reducible exact ft_no h | exact Bool.noConfusion h | with_reducible exact h | (have ht : true = true := h; clear ht h) | skip) | ((with_reducible refine DWl.mark ?_); repeat' (first | refine DWl.cons ?_ ?_ | exact DWl.nil | exact DW.same _ rfl | exact DW.ref _ _ _ rfl | exact DW.arr _ _ _ rfl | exact DW.sub _ _ _ _ rfl | exact DW.nilLst _ | refine DW.aggl ?_ | refine DW.tupl ?_ | refine DW.clol ?_ ?_ | refine DW.int ?_ | refine DW.bool ?_ | refine DW.str ?_)) | ((with_reducible refine SCall.mark ?_); first | refine SCall.data (hany) rfl rfl ?_ | refine SCall.scal (hany) rfl rfl ?_ | refine SCall.data (rep78_D s hs) rfl rfl ?_ | refine SCall.scal (rep78_D s hs) rfl rfl ?_) | ((with_reducible refine PCall.mark ?_); first | refine PCall.mk (hany) rfl rfl ?_ | refine PCall.mk (rep78_D s hs) rfl rfl ?_) | ((with_reducible refine GCall.mark ?_); first | refine GCall.data (fun _ => hany) rfl rfl ?_ | refine GCall.scal (fun _ => hany) rfl rfl ?_ | refine GCall.data (fun _ => rep78_D s hs) rfl rfl ?_ | refine GCall.scal (fun _ => rep78_D s hs) rfl rfl ?_) | ((with_reducible refine MCall.mark ?_); first | refine MCall.data (fun _ => hany) rfl rfl ?_ | refine MCall.plain (PCall.mk (hany) rfl rfl ?_) | refine MCall.data (fun _ => rep78_D s hs) rfl rfl ?_ | refine MCall.plain (PCall.mk (rep78_D s hs) rfl rfl ?_)) | ((with_reducible refine ECall.mark ?_); first | refine ECall.only ?_ (fun h => nomatch h) | refine ECall.only ?_ ?_) | ((with_reducible refine Drawn.mark ?_); first | refine Drawn.quiet (by kernel_rfl) ?_) | refine dcell_ok rfl ?_ | refine AppC.new ?_))
  all_goals first | (with_reducible refine enters_mark ?_; kernel_rfl) | (with_reducible refine boolT_mark ?_; kernel_rfl) | rfl | trivial | assumption | exact Nat.le_of_ble_eq_true rfl | (show entersB _ _ = true; kernel_rfl) | exact DW.same _ rfl | exact DW.ref _ _ _ rfl | exact DW.arr _ _ _ rfl | refine DW.int ?_ | refine dvb ?_ | refine dvi ?_ | exact OW.cells rfl rfl (DWl.same rfl) | skip
  all_goals repeat' (first | exact OW.cells rfl rfl (DWl.same rfl) | refine OW.cells rfl rfl ?_ | exact DW.nilArr _ rfl | refine DW.clol ?_ ?_ | refine DWl.cons ?_ ?_ | exact DWl.nil | exact DW.same _ rfl | exact DW.ref _ _ _ rfl | exact DW.arr _ _ _ rfl | refine DW.int ?_)
  all_goals try (simp_all; done)
  all_goals try (simp at *; omega)
  · show 1 + (repQ s).size ≤ _
    omega
  · rw [ByteArray.size_append]
    show 1 + (repQ s).size + 1 ≤ _
    omega
  · conv => whnf
    exact wr_yes h
  · conv => whnf
    exact wr_no h
end Go.Proofs.YtlchjjchgebfiaaGreatDoor

/- Write: a line, as the program writes it. -/
namespace Go.Proofs.YtlchjjchgebfiaaGreatDoor
open Go.RowKit Go.Dl
attribute [local irreducible] Tri SCall TSem ECall Drawn DFun QSem PSem PCall GCall MCall Round Weak dloadE OW DWl Tells IntKind.wrap Retold ESem
theorem bytesD_app (a b : ByteArray) : bytesD (a ++ b) = bytesD a ++ bytesD b := by simp [bytesD, Lib.strCells]
theorem bytesD_all (a : ByteArray) : (bytesD a).all noId1 = true := by
  rw [List.all_eq_true]
  intro d hd
  obtain ⟨v, _, rfl⟩ := List.mem_map.1 hd
  rfl
theorem bytesD_take (a : ByteArray) : (bytesD a).take (a.size * 1) = bytesD a := List.take_of_length_le (by rw [bytesD_len]; omega)
theorem app63 {x y : Operand} {s : Sto} {ρ : Operand → DV} {K : DV → Sto → Prop} {id n : Nat} {o : DObj} {str : ByteArray} (hx : ρ x = .arr id n) (hy : ρ y = .v (.string str)) (hob : s.ob id = some o) (he : o.elem = 5) (hos : o.sz = 1) (hn : o.cells.length = n) (hlen : n + str.size ≤ 140737488355328)
    (hK : K (.arr s.nx (n + str.size)) ⟨upd (upd s.ob id none) s.nx (some ⟨5, 1, o.cells ++ bytesD str⟩), s.nx + 1⟩) : ESem Tryz.prog s (.call ⟨.builtin .append, #[x, y], #[63, 9]⟩) ρ K := by
  obtain ⟨i0, hi, hz0, hz1, hz2⟩ := info_parts extraJ.infoByte
  exact esem_appStr Tryz.underlying63 Tryz.underlying9 hi hz0 hz1 hz2 hx hy hob he hos hn hlen hK
theorem cc70_U {id : Nat} {b : DV} {s : Sto} {K : DV → Sto → Prop} (hob : s.ob id = some ⟨65, 2, [.ref id 0, b]⟩) (hK : K (.tup []) ⟨upd s.ob id (some ⟨65, 2, [.ref id 0, b]⟩), s.nx⟩) : SCall Tryz.prog 70 [.ref id 0] s K := cc70_S (f := false) hob hK
def comB : ByteArray := ⟨#[44]⟩
def nlB : ByteArray := ⟨#[10]⟩
def lineI (l : List ByteArray) (a : Bool) : Nat → ByteArray
  | 0 => emB
  | i + 1 => (bif decide (0 < (i : Int)) then lineI l a i ++ comB else lineI l a i) ++ wrB (l.getD i emB) a
def lineW (l : List ByteArray) (a : Bool) : ByteArray := lineI l a l.length ++ nlB
def lnSt (t : Tb) (l : List ByteArray) (acc : ByteArray) (a fr : Bool) (nb i : Nat) : St := ⟨⟨nb, []⟩, tmOf [(1, .ref 1 0), (2, .ref 0 0), (6, strs l), (7, int1 (l.map strD).length), (8, int1 i)], .of [(0, ⟨25, 2, tbD t⟩), (1, ⟨65, 2, [aB 1 (Nat.beq i 0 && fr), .arr nb (acc ++ lineI l a i).size]⟩), (nb, ⟨5, 1, bytesD (acc ++ lineI l a i)⟩)] (nb + 1)⟩
def aloneB (t : Tb) : Bool := ((t.head.map strD).length : Int) == 1
theorem emB_app (x : ByteArray) : emB ++ x = x := by
  apply ByteArray.ext
  rw [ByteArray.data_append]
  show #[] ++ x.data = x.data
  simp
theorem app_emB (x : ByteArray) : x ++ emB = x := by
  apply ByteArray.ext
  rw [ByteArray.data_append]
  show x.data ++ #[] = x.data
  simp
theorem app_asc (a b c : ByteArray) : a ++ b ++ c = a ++ (b ++ c) := by
  apply ByteArray.ext
  simp
theorem li_size {l : List ByteArray} {a : Bool} (hs : ∀ s ∈ l, s.size ≤ 1024 ∧ Asc s) : ∀ {i : Nat}, i ≤ l.length → (lineI l a i).size ≤ i * 2051
  | 0, _ => Nat.le_refl _
  | i + 1, hi => by
    have ih := li_size (a := a) hs (i := i) (by omega)
    have hm : l.getD i emB ∈ l := by rw [List.getD_eq_getElem?_getD, List.getElem?_eq_getElem (by omega)]; exact List.getElem_mem _
    have h1 := (hs _ hm).1
    have h2 := wrB_size (l.getD i emB) a
    rw [lineI, ByteArray.size_append]
    have h3 : (bif decide (0 < (i : Int)) then lineI l a i ++ comB else lineI l a i).size ≤ (lineI l a i).size + 1 := by
      cases decide (0 < (i : Int)) with
      | true => show (lineI l a i ++ comB).size ≤ _
                rw [ByteArray.size_append]; exact Nat.le_refl _
      | false => show (lineI l a i).size ≤ _; omega
    omega
theorem ln_size (acc : ByteArray) {l : List ByteArray} {a : Bool} {i : Nat} (hl : l.length ≤ 64) (hs : ∀ s ∈ l, s.size ≤ 1024 ∧ Asc s) (hi : i ≤ l.length) (ha : acc.size ≤ 1000000000) : (acc ++ lineI l a i).size ≤ 1000131264 := by
  have := li_size (a := a) hs hi
  rw [ByteArray.size_append]; omega
set_option maxRecDepth 20000 in
theorem ln_b1 (x : ByteArray) : x.size * Tryz.prog.types[5].size ≤ (bytesD x).length := by
  rw [bytesD_len]
  show x.size * 1 ≤ _
  omega
set_option maxRecDepth 20000 in
theorem ln_b2 {n : Nat} (h : n ≤ 1000131264) : (n + 1) * Tryz.prog.types[5].bytes ≤ 140737488355328 := by
  show (n + 1) * 1 ≤ _
  omega
theorem ln_b3 {n : Nat} (h : n ≤ 1000131264) : n + 1 ≤ maxLen := by simp only [maxLen]; omega
theorem ln_b4 {n : Nat} {s : ByteArray} {a : Bool} (h : n ≤ 1000131264) (h1 : s.size ≤ 1024) : n + 1 + (wrB s a).size ≤ 140737488355328 := by
  have := wrB_size s a
  omega
theorem ln_b5 {n : Nat} {s : ByteArray} {a : Bool} (h : n ≤ 1000131264) (h1 : s.size ≤ 1024) : n + (wrB s a).size ≤ 140737488355328 := by
  have := wrB_size s a
  omega
theorem ln_l1 (x : ByteArray) : ((bytesD x).take (x.size * 1) ++ [DV.v (.int .u8 44)]).length = x.size + 1 := by rw [bytesD_take, List.length_append, bytesD_len]; rfl
theorem ln_yes {acc : ByteArray} {l : List ByteArray} {a : Bool} {i : Nat} (h : decide (0 < (i : Int)) = true) : (bytesD (acc ++ lineI l a i)).take ((acc ++ lineI l a i).size * 1) ++ [DV.v (.int .u8 44)] ++ bytesD (wrB (l.getD (i : Int).toNat emB) a) = bytesD (acc ++ lineI l a (i + 1)) := by
  rw [bytesD_take, lineI, h, Int.toNat_natCast]
  show bytesD (acc ++ lineI l a i) ++ bytesD comB ++ _ = bytesD (acc ++ (lineI l a i ++ comB ++ _))
  rw [← bytesD_app, ← bytesD_app, app_asc, app_asc, app_asc]
theorem ln_yesN {acc : ByteArray} {l : List ByteArray} {a : Bool} {i : Nat} (h : decide (0 < (i : Int)) = true) : (acc ++ lineI l a i).size + 1 + (wrB (l.getD (i : Int).toNat emB) a).size = (acc ++ lineI l a (i + 1)).size := by
  rw [lineI, h, Int.toNat_natCast]
  show _ = (acc ++ (lineI l a i ++ comB ++ _)).size
  rw [ByteArray.size_append, ByteArray.size_append, ByteArray.size_append, ByteArray.size_append]
  have : comB.size = 1 := rfl
  omega
theorem ln_no {acc : ByteArray} {l : List ByteArray} {a : Bool} {i : Nat} (h : decide (0 < (i : Int)) = false) : bytesD (acc ++ lineI l a i) ++ bytesD (wrB (l.getD (i : Int).toNat emB) a) = bytesD (acc ++ lineI l a (i + 1)) := by
  rw [lineI, h, Int.toNat_natCast]
  show _ = bytesD (acc ++ (lineI l a i ++ _))
  rw [← bytesD_app, app_asc]
theorem ln_noN {acc : ByteArray} {l : List ByteArray} {a : Bool} {i : Nat} (h : decide (0 < (i : Int)) = false) : (acc ++ lineI l a i).size + (wrB (l.getD (i : Int).toNat emB) a).size = (acc ++ lineI l a (i + 1)).size := by
  rw [lineI, h, Int.toNat_natCast]
  show _ = (acc ++ (lineI l a i ++ _)).size
  rw [ByteArray.size_append, ByteArray.size_append, ByteArray.size_append]
  omega
theorem ln_end (acc : ByteArray) (l : List ByteArray) (a : Bool) : (bytesD (acc ++ lineI l a l.length)).take ((acc ++ lineI l a l.length).size * 1) ++ [DV.v (.int .u8 10)] = bytesD (acc ++ lineW l a) := by
  rw [bytesD_take]
  show bytesD (acc ++ lineI l a l.length) ++ bytesD nlB = _
  rw [← bytesD_app, lineW, app_asc]
theorem ln_endN (acc : ByteArray) (l : List ByteArray) (a : Bool) : (acc ++ lineI l a l.length).size + 1 = (acc ++ lineW l a).size := by
  rw [lineW, ← app_asc]
  exact (ByteArray.size_append (a := acc ++ lineI l a l.length) (b := nlB)).symm
theorem aT_dw {ρ : Nat → Option Nat} {s : Sto} {pub : Nat → Prop} : DW ρ s pub (.v (.pointer none)) (aB 1 (Nat.beq 0 0 && true)) := DW.same _ rfl
theorem aF_dw {ρ : Nat → Option Nat} {s : Sto} {pub : Nat → Prop} {f : Bool} (h : ρ 1 = some 1) (hf : f = false) : DW ρ s pub (.ref 1 0) (aB 1 f) := by subst hf; exact DW.ref 1 1 0 h
theorem em_size (l : List ByteArray) (a : Bool) : 0 = (emB ++ lineI l a 0).size := rfl
theorem em_bytes (l : List ByteArray) (a : Bool) : bytesD (emB ++ lineI l a 0) = [] := rfl
theorem acc_size (acc : ByteArray) (l : List ByteArray) (a : Bool) : acc.size = (acc ++ lineI l a 0).size := by rw [lineI, app_emB]
theorem acc_bytes (acc : ByteArray) (l : List ByteArray) (a : Bool) : bytesD acc = bytesD (acc ++ lineI l a 0) := by rw [lineI, app_emB]
theorem DW.nilArrE {ρ : Nat → Option Nat} {s : Sto} {pub : Nat → Prop} {id n : Nat} (h : ρ id = none) (hn : 0 = n) : DW ρ s pub (.v (.slice none 0 0)) (.arr id n) := by subst hn; exact DW.nilArr _ h
attribute [local irreducible] aB wrB lineI bytesD lineW
set_option maxRecDepth 20000 in
set_option maxHeartbeats 1000000 in
theorem lineF_S (t : Tb) (l : List ByteArray) (hl : l.length ≤ 64) (hs : ∀ s ∈ l, s.size ≤ 1024 ∧ Asc s) {K : DV → Sto → Prop}
    (hK : K (.tup []) (.of [(0, ⟨25, 2, tbD t⟩), (1, ⟨65, 2, [.ref 1 0, .arr 2 (emB ++ lineW l (aloneB t)).size]⟩), (2, ⟨5, 1, bytesD (emB ++ lineW l (aloneB t))⟩)] 3)) :
    SCall Tryz.prog 43 [strs l, .ref 1 0, .ref 0 0] (.of [(0, ⟨25, 2, tbD t⟩), (1, ⟨65, 2, [.v (.pointer none), .v (.slice none 0 0)]⟩)] 2) K := by
  have hw := fun s (h : s ∈ l) => wr45_D s (aloneB t) (hs s h).1 (hs s h).2
  refine SCall.retell (SCall.run Tryz.func43 rfl (Nat.le_of_ble_eq_true rfl) (by kernel_rfl) ?_)
  repeat' (first | with_reducible rfl | ((conv => whnf); first | refine And.intro ?_ ?_ | (intro h; first | with_reducible exact tf_no h | with_reducible exact ft_no h | exact Bool.noConfusion h | with_reducible exact h | (have ht : true = true := h; clear ht h) | skip) | ((with_reducible refine DWl.mark ?_); repeat' (first | refine DWl.cons ?_ ?_ | exact DWl.nil | exact DW.same _ rfl | exact DW.ref _ _ _ rfl | exact DW.arr _ _ _ rfl | exact DW.sub _ _ _ _ rfl | exact DW.nilLst _ | refine DW.aggl ?_ | refine DW.tupl ?_ | refine DW.clol ?_ ?_ | refine DW.int ?_ | refine DW.bool ?_ | refine DW.str ?_)) | ((with_reducible refine SCall.mark ?_); first | refine SCall.run Tryz.func44 rfl (Nat.le_of_ble_eq_true rfl) (by kernel_rfl) ?_ | refine SCall.run Tryz.func36 rfl (Nat.le_of_ble_eq_true rfl) (by kernel_rfl) ?_ | refine cc70_S rfl ?_ | refine cc70_U rfl ?_ | refine SCall.data (hw _ ?_) rfl rfl ?_ | refine SCall.scal (hw _ ?_) rfl rfl ?_) | ((with_reducible refine PCall.mark ?_); first | refine PCall.mk (hw _ ?_) rfl rfl ?_) | ((with_reducible refine GCall.mark ?_); first | refine GCall.data (fun _ => hw _ ?_) rfl rfl ?_ | refine GCall.scal (fun _ => hw _ ?_) rfl rfl ?_) | ((with_reducible refine MCall.mark ?_); first | refine MCall.data (fun _ => hw _ ?_) rfl rfl ?_ | refine MCall.plain (PCall.mk (hw _ ?_) rfl rfl ?_)) | ((with_reducible refine Tri.mark ?_); first | refine Tri.loop (lnSt t l (emB) (aloneB t) true 2) ((· ≤ l.length)) (fun i => l.length - i) (0) (by kernel_rfl) (Weak.list [(2, none)] [] ?_ ?_ ?_) ?_ ?_) | ((with_reducible refine ECall.mark ?_); first | refine ECall.only ?_ (fun h => nomatch h) | refine ECall.only ?_ ?_) | ((with_reducible refine Drawn.mark ?_); first | refine Drawn.quiet (by kernel_rfl) ?_) | refine app63 rfl rfl rfl rfl rfl ?_ ?_ ?_ | refine dloadE_map (emB) ?_ ?_ | refine dcell_ok rfl ?_ | refine AppC.new ?_))
  all_goals first | (with_reducible refine enters_mark ?_; kernel_rfl) | (with_reducible refine boolT_mark ?_; kernel_rfl) | rfl | trivial | assumption | exact Nat.le_of_ble_eq_true rfl | (show entersB _ _ = true; kernel_rfl) | exact DW.same _ rfl | exact DW.ref _ _ _ rfl | exact DW.arr _ _ _ rfl | refine DW.int ?_ | refine dvb ?_ | refine dvi ?_ | exact OW.cells rfl rfl (DWl.same rfl) | exact Nat.zero_le _ | omega | skip
  all_goals repeat' (first | refine OW.cells rfl rfl ?_ | exact DW.nilArr _ rfl | refine DWl.cons ?_ ?_ | exact DWl.nil | exact DW.same _ rfl | exact DW.ref _ _ _ rfl | exact DW.arr _ _ _ rfl | exact DW.sub _ _ _ _ rfl | exact DW.nilLst _ | refine DW.aggl ?_ | refine DW.tupl ?_ | refine DW.clol ?_ ?_)
  all_goals try ((conv => whnf); with_reducible first | refine Round.mark ?_ | refine Tells.mark ?_ | refine Retold.mark ?_)
  all_goals try first | (show (_ : Bool) = _; simp_all; done) | (show (_ : Int) < _; simp at *; omega) | (show (_ : Int) ≤ _; simp at *; omega) | (show (_ : Nat) < _; simp at *; omega) | (show (_ : Nat) ≤ _; simp at *; omega)
  · exact aT_dw
  · exact DW.nilArrE rfl (em_size _ _)
  · exact em_bytes _ _
  · exact ln_b1 _
  · rename_i i hi e0
    exact ln_b2 (ln_size (emB) hl hs (i := i) hi (Nat.zero_le _))
  · rename_i i hi e0
    exact ln_b3 (ln_size (emB) hl hs (i := i) hi (Nat.zero_le _))
  · rename_i i hi e0
    exact mem_at (lt_of_test e0)
  · exact ln_l1 _
  · rename_i i hi e0
    exact ln_b4 (ln_size (emB) hl hs (i := i) hi (Nat.zero_le _)) (hs _ (mem_at (lt_of_test e0))).1
  · rename_i i hi e0
    have hlt := lt_of_test e0
    refine Round.go (· + 1) hlt (by show l.length - (i + 1) < l.length - i; omega) (Weak.list [(2, some 5)] [] (by kernel_rfl) ?_ ?_)
    · repeat' (first | exact wsucc hlt (by omega) | exact DWl.eq (ln_yes h) (bytesD_all _) | exact ln_yesN h | exact aF_dw rfl rfl | exact DW.same _ rfl | exact DW.ref _ _ _ rfl | exact DW.arr _ _ _ rfl | exact OW.cells rfl rfl (DWl.same rfl) | refine OW.cells rfl rfl ?_ | refine DWl.cons ?_ ?_ | exact DWl.nil | exact DW.nilArr _ rfl | exact DW.nilLst _ | refine DW.clol ?_ ?_ | refine DW.aggl ?_ | refine DW.tupl ?_ | refine DW.int ?_ | refine DW.bool ?_ | refine DW.str ?_ | refine DW.arrE rfl ?_ | ((conv => whnf); first | refine And.intro ?_ ?_ | trivial))
    · repeat' (first | exact wsucc hlt (by omega) | exact DWl.eq (ln_yes h) (bytesD_all _) | exact ln_yesN h | exact aF_dw rfl rfl | exact DW.same _ rfl | exact DW.ref _ _ _ rfl | exact DW.arr _ _ _ rfl | exact OW.cells rfl rfl (DWl.same rfl) | refine OW.cells rfl rfl ?_ | refine DWl.cons ?_ ?_ | exact DWl.nil | exact DW.nilArr _ rfl | exact DW.nilLst _ | refine DW.clol ?_ ?_ | refine DW.aggl ?_ | refine DW.tupl ?_ | refine DW.int ?_ | refine DW.bool ?_ | refine DW.str ?_ | refine DW.arrE rfl ?_ | ((conv => whnf); first | refine And.intro ?_ ?_ | trivial))
  · rename_i i hi e0
    exact mem_at (lt_of_test e0)
  · exact bytesD_len _
  · rename_i i hi e0
    exact ln_b5 (ln_size (emB) hl hs (i := i) hi (Nat.zero_le _)) (hs _ (mem_at (lt_of_test e0))).1
  · rename_i i hi e0
    have hlt := lt_of_test e0
    refine Round.go (· + 1) hlt (by show l.length - (i + 1) < l.length - i; omega) (Weak.list [(2, some 3)] [] (by kernel_rfl) ?_ ?_)
    · repeat' (first | exact wsucc hlt (by omega) | exact DWl.eq (ln_no h) (bytesD_all _) | exact ln_noN h | exact aF_dw rfl rfl | exact DW.same _ rfl | exact DW.ref _ _ _ rfl | exact DW.arr _ _ _ rfl | exact OW.cells rfl rfl (DWl.same rfl) | refine OW.cells rfl rfl ?_ | refine DWl.cons ?_ ?_ | exact DWl.nil | exact DW.nilArr _ rfl | exact DW.nilLst _ | refine DW.clol ?_ ?_ | refine DW.aggl ?_ | refine DW.tupl ?_ | refine DW.int ?_ | refine DW.bool ?_ | refine DW.str ?_ | refine DW.arrE rfl ?_ | ((conv => whnf); first | refine And.intro ?_ ?_ | trivial))
    · repeat' (first | exact wsucc hlt (by omega) | exact DWl.eq (ln_no h) (bytesD_all _) | exact ln_noN h | exact aF_dw rfl rfl | exact DW.same _ rfl | exact DW.ref _ _ _ rfl | exact DW.arr _ _ _ rfl | exact OW.cells rfl rfl (DWl.same rfl) | refine OW.cells rfl rfl ?_ | refine DWl.cons ?_ ?_ | exact DWl.nil | exact DW.nilArr _ rfl | exact DW.nilLst _ | refine DW.clol ?_ ?_ | refine DW.aggl ?_ | refine DW.tupl ?_ | refine DW.int ?_ | refine DW.bool ?_ | refine DW.str ?_ | refine DW.arrE rfl ?_ | ((conv => whnf); first | refine And.intro ?_ ?_ | trivial))
  · exact ln_b1 _
  · rename_i i hi
    exact ln_b2 (ln_size (emB) hl hs (i := i) hi (Nat.zero_le _))
  · rename_i i hi
    exact ln_b3 (ln_size (emB) hl hs (i := i) hi (Nat.zero_le _))
  · rename_i i hi
    have hi : i = l.length := by have := ge_of_test h; have : i ≤ l.length := hi; omega
    subst hi
    refine Retold.list [(2, some 4)] [] (.tup []) [(0, ⟨25, 2, tbD t⟩), (1, ⟨65, 2, [.ref 1 0, .arr 2 (emB ++ lineW l (aloneB t)).size]⟩), (2, ⟨5, 1, bytesD (emB ++ lineW l (aloneB t))⟩)] 3 (by kernel_rfl) ?_ ?_ hK
    · repeat' (first | exact DWl.eq (ln_end _ _ _) (bytesD_all _) | exact ln_endN _ _ _ | exact DW.same _ rfl | exact DW.ref _ _ _ rfl | exact DW.arr _ _ _ rfl | exact OW.cells rfl rfl (DWl.same rfl) | refine OW.cells rfl rfl ?_ | refine DWl.cons ?_ ?_ | exact DWl.nil | exact DW.nilArr _ rfl | exact DW.nilLst _ | refine DW.clol ?_ ?_ | refine DW.aggl ?_ | refine DW.tupl ?_ | refine DW.int ?_ | refine DW.bool ?_ | refine DW.str ?_ | refine DW.arrE rfl ?_ | ((conv => whnf); first | refine And.intro ?_ ?_ | trivial))
    · repeat' (first | exact DWl.eq (ln_end _ _ _) (bytesD_all _) | exact ln_endN _ _ _ | exact DW.same _ rfl | exact DW.ref _ _ _ rfl | exact DW.arr _ _ _ rfl | exact OW.cells rfl rfl (DWl.same rfl) | refine OW.cells rfl rfl ?_ | refine DWl.cons ?_ ?_ | exact DWl.nil | exact DW.nilArr _ rfl | exact DW.nilLst _ | refine DW.clol ?_ ?_ | refine DW.aggl ?_ | refine DW.tupl ?_ | refine DW.int ?_ | refine DW.bool ?_ | refine DW.str ?_ | refine DW.arrE rfl ?_ | ((conv => whnf); first | refine And.intro ?_ ?_ | trivial))
set_option maxRecDepth 20000 in
set_option maxHeartbeats 1000000 in
theorem lineU_S (t : Tb) (acc : ByteArray) (hacc : acc.size ≤ 1000000000) (l : List ByteArray) (hl : l.length ≤ 64) (hs : ∀ s ∈ l, s.size ≤ 1024 ∧ Asc s) {K : DV → Sto → Prop}
    (hK : K (.tup []) (.of [(0, ⟨25, 2, tbD t⟩), (1, ⟨65, 2, [.ref 1 0, .arr 3 (acc ++ lineW l (aloneB t)).size]⟩), (3, ⟨5, 1, bytesD (acc ++ lineW l (aloneB t))⟩)] 4)) :
    SCall Tryz.prog 43 [strs l, .ref 1 0, .ref 0 0] (.of [(0, ⟨25, 2, tbD t⟩), (1, ⟨65, 2, [.ref 1 0, .arr 2 acc.size]⟩), (2, ⟨5, 1, bytesD acc⟩)] 3) K := by
  have hw := fun s (h : s ∈ l) => wr45_D s (aloneB t) (hs s h).1 (hs s h).2
  refine SCall.retell (SCall.run Tryz.func43 rfl (Nat.le_of_ble_eq_true rfl) (by kernel_rfl) ?_)
  repeat' (first | with_reducible rfl | ((conv => whnf); first | refine And.intro ?_ ?_ | (intro h; first | with_reducible exact tf_no h | with_reducible exact ft_no h | exact Bool.noConfusion h | with_reducible exact h | (have ht : true = true := h; clear ht h) | skip) | ((with_reducible refine DWl.mark ?_); repeat' (first | refine DWl.cons ?_ ?_ | exact DWl.nil | exact DW.same _ rfl | exact DW.ref _ _ _ rfl | exact DW.arr _ _ _ rfl | exact DW.sub _ _ _ _ rfl | exact DW.nilLst _ | refine DW.aggl ?_ | refine DW.tupl ?_ | refine DW.clol ?_ ?_ | refine DW.int ?_ | refine DW.bool ?_ | refine DW.str ?_)) | ((with_reducible refine SCall.mark ?_); first | refine SCall.run Tryz.func44 rfl (Nat.le_of_ble_eq_true rfl) (by kernel_rfl) ?_ | refine SCall.run Tryz.func36 rfl (Nat.le_of_ble_eq_true rfl) (by kernel_rfl) ?_ | refine cc70_S rfl ?_ | refine cc70_U rfl ?_ | refine SCall.data (hw _ ?_) rfl rfl ?_ | refine SCall.scal (hw _ ?_) rfl rfl ?_) | ((with_reducible refine PCall.mark ?_); first | refine PCall.mk (hw _ ?_) rfl rfl ?_) | ((with_reducible refine GCall.mark ?_); first | refine GCall.data (fun _ => hw _ ?_) rfl rfl ?_ | refine GCall.scal (fun _ => hw _ ?_) rfl rfl ?_) | ((with_reducible refine MCall.mark ?_); first | refine MCall.data (fun _ => hw _ ?_) rfl rfl ?_ | refine MCall.plain (PCall.mk (hw _ ?_) rfl rfl ?_)) | ((with_reducible refine Tri.mark ?_); first | refine Tri.loop (lnSt t l (acc) (aloneB t) false 3) ((· ≤ l.length)) (fun i => l.length - i) (0) (by kernel_rfl) (Weak.list [(3, some 2)] [] ?_ ?_ ?_) ?_ ?_) | ((with_reducible refine ECall.mark ?_); first | refine ECall.only ?_ (fun h => nomatch h) | refine ECall.only ?_ ?_) | ((with_reducible refine Drawn.mark ?_); first | refine Drawn.quiet (by kernel_rfl) ?_) | refine app63 rfl rfl rfl rfl rfl ?_ ?_ ?_ | refine dloadE_map (emB) ?_ ?_ | refine dcell_ok rfl ?_ | refine AppC.new ?_))
  all_goals first | (with_reducible refine enters_mark ?_; kernel_rfl) | (with_reducible refine boolT_mark ?_; kernel_rfl) | rfl | trivial | assumption | exact Nat.le_of_ble_eq_true rfl | (show entersB _ _ = true; kernel_rfl) | exact DW.same _ rfl | exact DW.ref _ _ _ rfl | exact DW.arr _ _ _ rfl | refine DW.int ?_ | refine dvb ?_ | refine dvi ?_ | exact OW.cells rfl rfl (DWl.same rfl) | exact Nat.zero_le _ | omega | skip
  all_goals repeat' (first | refine OW.cells rfl rfl ?_ | exact DW.nilArr _ rfl | refine DWl.cons ?_ ?_ | exact DWl.nil | exact DW.same _ rfl | exact DW.ref _ _ _ rfl | exact DW.arr _ _ _ rfl | exact DW.sub _ _ _ _ rfl | exact DW.nilLst _ | refine DW.aggl ?_ | refine DW.tupl ?_ | refine DW.clol ?_ ?_)
  all_goals try ((conv => whnf); with_reducible first | refine Round.mark ?_ | refine Tells.mark ?_ | refine Retold.mark ?_)
  all_goals try first | (show (_ : Bool) = _; simp_all; done) | (show (_ : Int) < _; simp at *; omega) | (show (_ : Int) ≤ _; simp at *; omega) | (show (_ : Nat) < _; simp at *; omega) | (show (_ : Nat) ≤ _; simp at *; omega)
  · exact aF_dw rfl rfl
  · exact DW.arrE rfl (acc_size _ _ _)
  · exact DWl.eq (acc_bytes _ _ _) (bytesD_all _)
  · exact ln_b1 _
  · rename_i i hi e0
    exact ln_b2 (ln_size (acc) hl hs (i := i) hi hacc)
  · rename_i i hi e0
    exact ln_b3 (ln_size (acc) hl hs (i := i) hi hacc)
  · rename_i i hi e0
    exact mem_at (lt_of_test e0)
  · exact ln_l1 _
  · rename_i i hi e0
    exact ln_b4 (ln_size (acc) hl hs (i := i) hi hacc) (hs _ (mem_at (lt_of_test e0))).1
  · rename_i i hi e0
    have hlt := lt_of_test e0
    refine Round.go (· + 1) hlt (by show l.length - (i + 1) < l.length - i; omega) (Weak.list [(3, some 6)] [] (by kernel_rfl) ?_ ?_)
    · repeat' (first | exact wsucc hlt (by omega) | exact DWl.eq (ln_yes h) (bytesD_all _) | exact ln_yesN h | exact aF_dw rfl rfl | exact DW.same _ rfl | exact DW.ref _ _ _ rfl | exact DW.arr _ _ _ rfl | exact OW.cells rfl rfl (DWl.same rfl) | refine OW.cells rfl rfl ?_ | refine DWl.cons ?_ ?_ | exact DWl.nil | exact DW.nilArr _ rfl | exact DW.nilLst _ | refine DW.clol ?_ ?_ | refine DW.aggl ?_ | refine DW.tupl ?_ | refine DW.int ?_ | refine DW.bool ?_ | refine DW.str ?_ | refine DW.arrE rfl ?_ | ((conv => whnf); first | refine And.intro ?_ ?_ | trivial))
    · repeat' (first | exact wsucc hlt (by omega) | exact DWl.eq (ln_yes h) (bytesD_all _) | exact ln_yesN h | exact aF_dw rfl rfl | exact DW.same _ rfl | exact DW.ref _ _ _ rfl | exact DW.arr _ _ _ rfl | exact OW.cells rfl rfl (DWl.same rfl) | refine OW.cells rfl rfl ?_ | refine DWl.cons ?_ ?_ | exact DWl.nil | exact DW.nilArr _ rfl | exact DW.nilLst _ | refine DW.clol ?_ ?_ | refine DW.aggl ?_ | refine DW.tupl ?_ | refine DW.int ?_ | refine DW.bool ?_ | refine DW.str ?_ | refine DW.arrE rfl ?_ | ((conv => whnf); first | refine And.intro ?_ ?_ | trivial))
  · rename_i i hi e0
    exact mem_at (lt_of_test e0)
  · exact bytesD_len _
  · rename_i i hi e0
    exact ln_b5 (ln_size (acc) hl hs (i := i) hi hacc) (hs _ (mem_at (lt_of_test e0))).1
  · rename_i i hi e0
    have hlt := lt_of_test e0
    refine Round.go (· + 1) hlt (by show l.length - (i + 1) < l.length - i; omega) (Weak.list [(3, some 4)] [] (by kernel_rfl) ?_ ?_)
    · repeat' (first | exact wsucc hlt (by omega) | exact DWl.eq (ln_no h) (bytesD_all _) | exact ln_noN h | exact aF_dw rfl rfl | exact DW.same _ rfl | exact DW.ref _ _ _ rfl | exact DW.arr _ _ _ rfl | exact OW.cells rfl rfl (DWl.same rfl) | refine OW.cells rfl rfl ?_ | refine DWl.cons ?_ ?_ | exact DWl.nil | exact DW.nilArr _ rfl | exact DW.nilLst _ | refine DW.clol ?_ ?_ | refine DW.aggl ?_ | refine DW.tupl ?_ | refine DW.int ?_ | refine DW.bool ?_ | refine DW.str ?_ | refine DW.arrE rfl ?_ | ((conv => whnf); first | refine And.intro ?_ ?_ | trivial))
    · repeat' (first | exact wsucc hlt (by omega) | exact DWl.eq (ln_no h) (bytesD_all _) | exact ln_noN h | exact aF_dw rfl rfl | exact DW.same _ rfl | exact DW.ref _ _ _ rfl | exact DW.arr _ _ _ rfl | exact OW.cells rfl rfl (DWl.same rfl) | refine OW.cells rfl rfl ?_ | refine DWl.cons ?_ ?_ | exact DWl.nil | exact DW.nilArr _ rfl | exact DW.nilLst _ | refine DW.clol ?_ ?_ | refine DW.aggl ?_ | refine DW.tupl ?_ | refine DW.int ?_ | refine DW.bool ?_ | refine DW.str ?_ | refine DW.arrE rfl ?_ | ((conv => whnf); first | refine And.intro ?_ ?_ | trivial))
  · exact ln_b1 _
  · rename_i i hi
    exact ln_b2 (ln_size (acc) hl hs (i := i) hi hacc)
  · rename_i i hi
    exact ln_b3 (ln_size (acc) hl hs (i := i) hi hacc)
  · rename_i i hi
    have hi : i = l.length := by have := ge_of_test h; have : i ≤ l.length := hi; omega
    subst hi
    refine Retold.list [(3, some 5)] [] (.tup []) [(0, ⟨25, 2, tbD t⟩), (1, ⟨65, 2, [.ref 1 0, .arr 3 (acc ++ lineW l (aloneB t)).size]⟩), (3, ⟨5, 1, bytesD (acc ++ lineW l (aloneB t))⟩)] 4 (by kernel_rfl) ?_ ?_ hK
    · repeat' (first | exact DWl.eq (ln_end _ _ _) (bytesD_all _) | exact ln_endN _ _ _ | exact DW.same _ rfl | exact DW.ref _ _ _ rfl | exact DW.arr _ _ _ rfl | exact OW.cells rfl rfl (DWl.same rfl) | refine OW.cells rfl rfl ?_ | refine DWl.cons ?_ ?_ | exact DWl.nil | exact DW.nilArr _ rfl | exact DW.nilLst _ | refine DW.clol ?_ ?_ | refine DW.aggl ?_ | refine DW.tupl ?_ | refine DW.int ?_ | refine DW.bool ?_ | refine DW.str ?_ | refine DW.arrE rfl ?_ | ((conv => whnf); first | refine And.intro ?_ ?_ | trivial))
    · repeat' (first | exact DWl.eq (ln_end _ _ _) (bytesD_all _) | exact ln_endN _ _ _ | exact DW.same _ rfl | exact DW.ref _ _ _ rfl | exact DW.arr _ _ _ rfl | exact OW.cells rfl rfl (DWl.same rfl) | refine OW.cells rfl rfl ?_ | refine DWl.cons ?_ ?_ | exact DWl.nil | exact DW.nilArr _ rfl | exact DW.nilLst _ | refine DW.clol ?_ ?_ | refine DW.aggl ?_ | refine DW.tupl ?_ | refine DW.int ?_ | refine DW.bool ?_ | refine DW.str ?_ | refine DW.arrE rfl ?_ | ((conv => whnf); first | refine And.intro ?_ ?_ | trivial))
end Go.Proofs.YtlchjjchgebfiaaGreatDoor

/- Write, as the program writes a table. -/
namespace Go.Proofs.YtlchjjchgebfiaaGreatDoor
open Go.RowKit Go.Dl
attribute [local irreducible] Tri SCall TSem ECall Drawn DFun QSem PSem PCall GCall MCall Round Weak dloadE OW DWl Tells IntKind.wrap Retold ESem
def textI (t : Tb) : Nat → ByteArray
  | 0 => emB ++ lineW t.head (aloneB t)
  | i + 1 => textI t i ++ lineW (t.rows.getD i []) (aloneB t)
def textW (t : Tb) : ByteArray := textI t t.rows.length
/-- What is asked of a table, for Write: its rows are short, its cells are, and they are ASCII. -/
def Wr (t : Tb) : Prop := t.rows.length ≤ 4096 ∧ (∀ l, l = t.head ∨ l ∈ t.rows → l.length ≤ 64 ∧ ∀ s ∈ l, s.size ≤ 1024 ∧ Asc s)
theorem lw_size {l : List ByteArray} {a : Bool} (hl : l.length ≤ 64) (hs : ∀ s ∈ l, s.size ≤ 1024 ∧ Asc s) : (lineW l a).size ≤ 131265 := by
  have := li_size (a := a) hs (Nat.le_refl _)
  rw [lineW, ByteArray.size_append]
  have : nlB.size = 1 := rfl
  omega
theorem row_at {t : Tb} (h : Wr t) {i : Nat} (hi : i < t.rows.length) : (t.rows.getD i []).length ≤ 64 ∧ ∀ s ∈ t.rows.getD i [], s.size ≤ 1024 ∧ Asc s :=
  h.2 _ (.inr (by rw [List.getD_eq_getElem?_getD, List.getElem?_eq_getElem hi]; exact List.getElem_mem hi))
theorem ti_size {t : Tb} (h : Wr t) : ∀ {i : Nat}, i ≤ t.rows.length → (textI t i).size ≤ (i + 1) * 131265
  | 0, _ => by
    rw [textI, emB_app]
    have := h.2 _ (.inl rfl)
    have := lw_size (a := aloneB t) this.1 this.2
    omega
  | i + 1, hi => by
    have ih := ti_size h (i := i) (by omega)
    have := row_at h (i := i) (by omega)
    have := lw_size (a := aloneB t) this.1 this.2
    rw [textI, ByteArray.size_append]
    omega
theorem lw_pos (l : List ByteArray) (a : Bool) : 0 < (lineW l a).size := by
  rw [lineW, ByteArray.size_append]
  have : nlB.size = 1 := rfl
  omega
theorem ti_pos (t : Tb) : ∀ i, 0 < (textI t i).size
  | 0 => by rw [textI, emB_app]; exact lw_pos _ _
  | i + 1 => by rw [textI, ByteArray.size_append]; have := ti_pos t i; omega
theorem ti_zero (t : Tb) : bytesD (emB ++ lineW t.head (aloneB t)) = bytesD (textI t 0) := rfl
theorem ti_zeroN (t : Tb) : (emB ++ lineW t.head (aloneB t)).size = (textI t 0).size := rfl
theorem ti_next (t : Tb) (i : Nat) : bytesD (textI t i ++ lineW (t.rows.getD (i : Int).toNat []) (aloneB t)) = bytesD (textI t (i + 1)) := rfl
theorem ti_nextN (t : Tb) (i : Nat) : (textI t i ++ lineW (t.rows.getD (i : Int).toNat []) (aloneB t)).size = (textI t (i + 1)).size := rfl
def wtSt (t : Tb) (i : Nat) : St := ⟨0, tmOf [(3, .ref 1 0), (4, .clo (.func 43) [] [.ref 1 0, .ref 0 0]), (13, rowsD t.rows), (14, int1 (t.rows.map rowD).length), (15, int1 i)], .of [(0, ⟨25, 2, tbD t⟩), (1, ⟨65, 2, [.ref 1 0, .arr 2 (textI t i).size]⟩), (2, ⟨5, 1, bytesD (textI t i)⟩)] 3⟩
attribute [local irreducible] textI lineW bytesD
set_option maxRecDepth 20000 in
set_option maxHeartbeats 1000000 in
theorem write14_D (t : Tb) (ht : Wr t) : DPure Tryz.prog 14 [tab t] (strV (textW t)) := by
  have hh := ht.2 _ (.inl rfl)
  refine DFun.data (DFun.body Tryz.func14 rfl (by kernel_rfl) ?_)
  repeat' (first | with_reducible rfl | ((conv => whnf); first | refine And.intro ?_ ?_ | (intro h; first | with_reducible exact tf_no h | with_reducible exact ft_no h | exact Bool.noConfusion h | with_reducible exact h | (have ht : true = true := h; clear ht h) | skip) | ((with_reducible refine DWl.mark ?_); repeat' (first | refine DWl.cons ?_ ?_ | exact DWl.nil | exact DW.same _ rfl | exact DW.ref _ _ _ rfl | exact DW.arr _ _ _ rfl | exact DW.sub _ _ _ _ rfl | exact DW.nilLst _ | refine DW.aggl ?_ | refine DW.tupl ?_ | refine DW.clol ?_ ?_ | refine DW.int ?_ | refine DW.bool ?_ | refine DW.str ?_)) | ((with_reducible refine SCall.mark ?_); first | refine SCall.tidy (nx' := 2) [(0, ⟨25, 2, tbD t⟩), (1, ⟨65, 2, [.v (.pointer none), .v (.slice none 0 0)]⟩)] rfl ⟨rfl, rfl, trivial⟩ (lineF_S t _ hh.1 hh.2 ?_) | refine lineU_S t _ ?_ _ ?_ ?_ ?_ | refine str39_S rfl rfl ?_ ?_ ?_) | ((with_reducible refine Tri.mark ?_); first | refine Tri.loop (wtSt t) ((· ≤ t.rows.length)) (fun i => t.rows.length - i) (0) (by kernel_rfl) (Weak.list [(0, some 0), (1, some 1), (2, some 2)] [] ?_ ?_ ?_) ?_ ?_) | ((with_reducible refine ECall.mark ?_); first | refine ECall.only ?_ (fun h => nomatch h) | refine ECall.only ?_ ?_) | ((with_reducible refine Drawn.mark ?_); first | refine Drawn.quiet (by kernel_rfl) ?_) | refine dloadE_map (([] : List ByteArray)) ?_ ?_ | refine dcell_ok rfl ?_ | refine AppC.new ?_))
  all_goals first | (with_reducible refine enters_mark ?_; kernel_rfl) | (with_reducible refine boolT_mark ?_; kernel_rfl) | rfl | trivial | assumption | exact Nat.le_of_ble_eq_true rfl | (show entersB _ _ = true; kernel_rfl) | exact DW.same _ rfl | exact DW.ref _ _ _ rfl | exact DW.arr _ _ _ rfl | refine DW.int ?_ | refine dvb ?_ | refine dvi ?_ | exact OW.cells rfl rfl (DWl.same rfl) | exact Nat.zero_le _ | omega | skip
  all_goals repeat' (first | refine OW.cells rfl rfl ?_ | exact DW.nilArr _ rfl | refine DWl.cons ?_ ?_ | exact DWl.nil | exact DW.same _ rfl | exact DW.ref _ _ _ rfl | exact DW.arr _ _ _ rfl | exact DW.sub _ _ _ _ rfl | exact DW.nilLst _ | refine DW.aggl ?_ | refine DW.tupl ?_ | refine DW.clol ?_ ?_)
  all_goals try ((conv => whnf); with_reducible first | refine Round.mark ?_ | refine Tells.mark ?_ | refine Retold.mark ?_)
  all_goals try first | (show (_ : Bool) = _; simp_all; done) | (show (_ : Int) < _; simp at *; omega) | (show (_ : Int) ≤ _; simp at *; omega) | (show (_ : Nat) < _; simp at *; omega) | (show (_ : Nat) ≤ _; simp at *; omega)
  · exact DW.arrE rfl (ti_zeroN t)
  · exact DWl.eq (ti_zero t) (bytesD_all _)
  · rename_i i hi
    have := ti_size ht (i := i) hi
    have h1 := ht.1
    have h2 : i ≤ t.rows.length := hi
    omega
  · exact (row_at ht (lt_of_test h)).1
  · rename_i i hi e0 s
    exact ((row_at ht (lt_of_test e0)).2 s h).1
  · rename_i i hi e0 s e1 j b
    exact ((row_at ht (lt_of_test e0)).2 s e1).2 j b h
  · rename_i i hi
    have hlt := lt_of_test h
    refine Round.go (· + 1) hlt (by show t.rows.length - (i + 1) < t.rows.length - i; omega) (Weak.list [(0, some 0), (1, some 1), (2, some 3)] [] (by kernel_rfl) ?_ ?_)
    · repeat' (first | exact wsucc hlt (by have := ht.1; omega) | exact DWl.eq (ti_next t i) (bytesD_all _) | exact ti_nextN t i | exact DW.same _ rfl | exact DW.ref _ _ _ rfl | exact DW.arr _ _ _ rfl | exact OW.cells rfl rfl (DWl.same rfl) | refine OW.cells rfl rfl ?_ | refine DWl.cons ?_ ?_ | exact DWl.nil | exact DW.nilArr _ rfl | exact DW.nilLst _ | refine DW.clol ?_ ?_ | refine DW.aggl ?_ | refine DW.tupl ?_ | refine DW.int ?_ | refine DW.bool ?_ | refine DW.str ?_ | refine DW.arrE rfl ?_ | ((conv => whnf); first | refine And.intro ?_ ?_ | trivial))
    · repeat' (first | exact wsucc hlt (by have := ht.1; omega) | exact DWl.eq (ti_next t i) (bytesD_all _) | exact ti_nextN t i | exact DW.same _ rfl | exact DW.ref _ _ _ rfl | exact DW.arr _ _ _ rfl | exact OW.cells rfl rfl (DWl.same rfl) | refine OW.cells rfl rfl ?_ | refine DWl.cons ?_ ?_ | exact DWl.nil | exact DW.nilArr _ rfl | exact DW.nilLst _ | refine DW.clol ?_ ?_ | refine DW.aggl ?_ | refine DW.tupl ?_ | refine DW.int ?_ | refine DW.bool ?_ | refine DW.str ?_ | refine DW.arrE rfl ?_ | ((conv => whnf); first | refine And.intro ?_ ?_ | trivial))
  · exact ti_pos t _
  · rename_i i hi
    have hi : i = t.rows.length := by have := ge_of_test h; have : i ≤ t.rows.length := hi; omega
    subst hi
    conv => whnf
    exact Tells.mk (DW.same _ rfl)
end Go.Proofs.YtlchjjchgebfiaaGreatDoor
