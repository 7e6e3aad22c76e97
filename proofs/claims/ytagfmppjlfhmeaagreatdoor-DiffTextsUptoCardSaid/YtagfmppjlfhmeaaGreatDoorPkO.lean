/- strings.Builder: copyCheck, String, as calls over objects. -/
import Derived.Test.YtagfmppjlfhmeaaGreatDoorPkI
import Derived.Shelf.Strings.Builder1

namespace Go.Proofs.YtagfmppjlfhmeaaGreatDoor
open Go Go.RowKit Go.Dl
theorem cells84 : Tryz.prog.cellsOf 84 = 2 := by kernel_rfl
theorem depthS : ∃ d, Tryz.prog.depth = d + 1 := ⟨Tryz.prog.depth - 1, by kernel_rfl⟩
theorem lies84 (c : Nat) (hc : 1 ≤ c) : liesAt Tryz.prog Tryz.prog.depth 84 (c * 2 / Tryz.prog.cellsOf 84) 0 84 1 = true := by
  obtain ⟨d, hd⟩ := depthS
  have e1 : c * 2 / Tryz.prog.cellsOf 84 = c := by rw [cells84]; omega
  have e2 : sameLayout Tryz.prog Tryz.prog.depth 84 84 = true := by rw [hd]; simp [sameLayout]
  rw [e1, hd, liesAt, hd, rowAt, ← hd, e2, cells84]
  simp [hc]
set_option maxRecDepth 100000 in
set_option maxHeartbeats 1000000 in
theorem cc_fresh (b c : Nat) (w : World) (h0 : w.cell? ⟨b, 0, none⟩ = some (.pointer none)) (hc : 1 ≤ c) (hsh : w.shape? b = some (84, c * 2)) (hfz : w.frozen? ⟨b, 0, none⟩ = false) :
    Calls Tryz.prog 67 #[.pointer (some ⟨b, 0, none⟩)] w fun e w' => e = .returned (.tuple #[]) ∧ w' = w.setCell ⟨b, 0, none⟩ (.pointer (some ⟨b, 0, none⟩)) := by
  obtain ⟨j, hj, hjs⟩ := Option.map_eq_some_iff.1 extraJ.sizeBuilder
  have hj : Tryz.prog.info? 84 = some j := hj
  have mixed := Tryz.laysJoin.mixed
  go_enter Tryz.func67, Tryz.ntmps67
  go_wp2
  rw [Lib.run_to_unsafe w ⟨b, 0, none⟩ Tryz.underlying81 Tryz.underlying173 hj (by rw [hjs]; decide) hsh (by show 0 < c * 2; omega)]
  simp only [Result.andThen]
  rw [Oper.upon_value]
  go_wp2
  rw [run_callFunc_extern Tryz.func89 (by kernel_rfl) (by kernel_rfl) (by kernel_rfl) (e := Extern.AbiNoEscape.same) (by kernel_rfl)]
  rw [Lib.run_noEscape]
  simp only [Result.andThen]
  rw [Oper.upon_value]
  go_wp2
  rw [Lib.run_from_unsafe w ⟨b, 0, none⟩ Tryz.underlying173 Tryz.underlying81 hj hsh (lies84 c hc)]
  simp only [Result.andThen]
  rw [Oper.upon_value]
  go_wp2
  go_end0
  exact ⟨rfl, rfl⟩
theorem SRel.spoil {w0 : World} {F0 : Nat → Prop} {s : Sto} {β : Beta} {w : World} (h : SRel w0 F0 s β w) (j : Nat) (o : DObj) (hob : s.ob j = some o) (b c : Nat) (hb : β j = some (some (b, c)))
    (w' : World) (hbel : BelowD b w w') (hoth : ∀ k, k ≠ b → w'.heap[k]? = w.heap[k]?) :
    SRel w0 F0 ⟨upd s.ob j none, s.nx⟩ β w' ∧ ∀ n, Ext n w0 nX s β w ⟨upd s.ob j none, s.nx⟩ β w' := by
  have hge : w0.heap.size ≤ b := by
    rcases h.obs j o hob with k1 | ⟨b2, c2, cur2, k1, k2, _⟩
    · rw [k1.1] at hb; cases hb
    · rw [k1] at hb; cases hb; exact k2
  have hsome : ∀ i, ((upd s.ob j none) i).isSome = true → (s.ob i).isSome = true ∧ i ≠ j := fun i => by
    by_cases e : i = j
    · subst e; simp
    · rw [upd_ne _ _ _ e]; exact fun h => ⟨h, e⟩
  have hnU : ¬ Un w0 s β b := fun hF => by
    rcases hF with hF | hF
    · omega
    · exact hF.2 j c (by simp [hob]) hb
  have hU : ∀ k, Un w0 s β k → Un w0 ⟨upd s.ob j none, s.nx⟩ β k := fun k hF => by
    rcases hF with hF | hF
    · exact .inl hF
    · exact .inr ⟨hF.1, fun i c' hi => hF.2 i c' (hsome i hi).1⟩
  have hext : ∀ n, Ext n w0 nX s β w ⟨upd s.ob j none, s.nx⟩ β w' := fun n => ⟨fun _ _ _ hp => hp, hbel.size, fun k hk _ hF => ⟨hU k hF, hoth k (fun e => hnU (e ▸ hF))⟩⟩
  refine ⟨⟨h.below.trans (hbel.mono hge), fun i oi hi => ?_, fun i k b2 c1 c2 hi hk => h.inj i k b2 c1 c2 (hsome i hi).1 (hsome k hk).1, fun i hi => ?_, fun k hk => h.up k (Nat.le_trans hbel.size hk), fun i b2 c2 hi hb2 => h.own i b2 c2 (hsome i hi).1 hb2, h.gl⟩, hext⟩
  · have hi2 : upd s.ob j none i = some oi := hi
    obtain ⟨hi1, hij⟩ := hsome i (by rw [hi2]; rfl)
    have hi' : s.ob i = some oi := by simpa [upd_ne _ _ _ hij] using hi
    rcases h.obs i oi hi' with k1 | ⟨b2, c2, cur2, k1, k2, k3, k4, k5, k6, k7⟩
    · exact .inl k1
    · refine .inr ⟨b2, c2, cur2, k1, k2, ?_, k4, k5, k6, fun m d hm => ?_⟩
      · rw [hoth b2 (fun e => hij (h.inj i j b2 c2 c (by simp [hi']) (by simp [hob]) k1 (by rw [hb, e])))]
        exact k3
      · obtain ⟨x, hx, hr⟩ := k7 m d hm
        exact ⟨x, hx, RV.ext h (Nat.le_refl _) (hext _) hr⟩
  · have := h.nx i hi
    refine ⟨this.1, ?_⟩
    by_cases e : i = j
    · subst e; simp
    · rw [show (Sto.mk (upd s.ob j none) s.nx).ob i = s.ob i from upd_ne _ _ _ e]; exact this.2
def aB (id : Nat) (f : Bool) : DV := bif f then .v (.pointer none) else .ref id 0
set_option maxRecDepth 100000 in
theorem cc67_S {id : Nat} {f : Bool} {b : DV} {s : Sto} {K : DV → Sto → Prop} (hob : s.ob id = some ⟨84, 2, [aB id f, b]⟩) (hK : K (.tup []) ⟨upd s.ob id (some ⟨84, 2, [.ref id 0, b]⟩), s.nx⟩) : SCall Tryz.prog 67 [.ref id 0] s K := fun w0 F0 β w vals hs hx => by
  match vals, hx.1 with
  | [x0], _ =>
  obtain ⟨bk, c, hb, rfl⟩ := rv_ref (hx.2 0 _ _ rfl rfl)
  rcases hs.obs id _ hob with g | ⟨b', c', cur, g1, g2, g3, g4, g5, g6, g7⟩
  · rw [g.1] at hb; cases hb
  rw [g1] at hb
  simp only [Option.some.injEq, Prod.mk.injEq] at hb
  obtain ⟨rfl, rfl⟩ := hb
  obtain ⟨x, hx0, hxr⟩ := g7 0 _ rfl
  have g6 : 2 ≤ cur.size := g6
  have g4 : cur.size = c' * 2 := g4
  replace g3 : w.heap[b']? = some (.cells cur 84 (0, 0)) := g3
  have hcell : w.cell? ⟨b', 0, none⟩ = some x := by rw [Lib.cell_of_heap g3]; exact hx0
  obtain ⟨k0, k1, k2, k3⟩ := hs.store1 id _ hob rfl b' c' g1 0 (by simp) (.ref id 0) (.pointer (some ⟨b', 0, none⟩)) (.ref id 0 b' c' g1)
  cases f with
  | true =>
    have hx1 : x = .pointer none := rv_v hxr
    subst hx1
    refine (cc_fresh b' c' w hcell (by omega) (by simp [World.shape?, g3, g4]) (by simp [World.frozen?, g3])).mono fun e w' ⟨he, hw⟩ => ?_
    subst hw
    exact ⟨_, .tup [], _, β, he, hK, k2, k3 _, Nat.le_refl _, .tup [] [] rfl (fun i d x h => by simp at h)⟩
  | false =>
    obtain ⟨b2, c2, h2, rfl⟩ := rv_ref hxr
    rw [g1] at h2
    simp only [Option.some.injEq, Prod.mk.injEq] at h2
    obtain ⟨rfl, rfl⟩ := h2
    refine (Any.Builder_copyCheck_used { Tryz.laysJoin with } extraJ.toX72 b' w hcell).mono fun e w' ⟨he, hw⟩ => ?_
    subst hw
    have hsame : (⟨upd s.ob id (some ⟨84, 2, [.ref id 0, b]⟩), s.nx⟩ : Sto) = s := by
      have h2 : upd s.ob id (some ⟨84, 2, [.ref id 0, b]⟩) = s.ob := by
        funext k
        by_cases e : k = id
        · subst e; rw [upd_same, hob]; rfl
        · rw [upd_ne _ _ _ e]
      rw [h2]
    rw [hsame] at hK
    exact ⟨_, .tup [], s, β, he, hK, hs, .refl, Nat.le_refl _, .tup [] [] rfl (fun i d x h => by simp at h)⟩
end Go.Proofs.YtagfmppjlfhmeaaGreatDoor

namespace Go.Proofs.YtagfmppjlfhmeaaGreatDoor
open Go Go.RowKit Go.Dl
set_option maxHeartbeats 2000000 in
set_option maxRecDepth 100000 in
theorem str_kit (b g cap : Nat) (cur : Array Value) (l : List UInt8) (w : World) (hc1 : w.cell? ⟨b, 1, none⟩ = some (.slice (some ⟨g, 0, none⟩) l.length cap)) (hg : w.heap[g]? = some (.cells cur 5 (0, 0))) (h0 : l ≠ []) (hcap : l.length ≤ cap) (hcm : cap ≤ maxLen) (hcs : l.length ≤ cur.size)
    (hcells : ∀ (j : Nat) x, l[j]? = some x → w.cell? ⟨g, j, none⟩ = some (.int .u8 x.toNat)) :
    Calls Tryz.prog 45 #[.pointer (some ⟨b, 0, none⟩)] w fun e w' => e = .returned (.string ⟨l.toArray⟩) ∧ w' = w.drew.freeze ⟨g, 0, none⟩ l.length := by
  have hl0 : l.length ≠ 0 := by simpa using h0
  have c1 : w.drew.cell? ⟨b, 1, none⟩ = some (.slice (some ⟨g, 0, none⟩) l.length cap) := hc1
  have hSD : (Builtin.unsafeSliceData_ #[82] 124 #[.slice (some ⟨g, 0, none⟩) l.length cap]).run Tryz.prog w.drew = .ok (.pointer (some ⟨g, 0, none⟩)) w.drew :=
    Lib.run_unsafeSliceData_row _ _ _ _ _ _ (by omega)
  have hUS : (Builtin.unsafeString_ #[124, 3] 9 #[.pointer (some ⟨g, 0, none⟩), .int .i64 l.length]).run Tryz.prog w.drew = .ok (.string ⟨l.toArray⟩) (w.drew.freeze ⟨g, 0, none⟩ l.length) := by
    refine Lib.run_unsafeString_row w.drew 124 3 9 5 Tryz.underlying124 extraJ.cellsByte g cur.size (by have hg' : w.drew.heap[g]? = some (.cells cur 5 (0, 0)) := hg; simp [World.shape?, hg']) l h0 (by omega) (by unfold maxLen at hcm; omega) ?_
    intro j x hx
    rw [Addr.add_lit, Nat.zero_add]
    exact hcells j x hx
  have mixed := Tryz.laysJoin.mixed
  clear hcells hg hcap hcm hcs h0 hl0
  go_enter Tryz.func45, Tryz.ntmps45
  go_wp2
  go_region_o
  all_goals (go_wp2; go_ret; exact ⟨rfl, rfl⟩)
theorem str45_S {id j n : Nat} {a : DV} {acc : ByteArray} {s : Sto} {K : DV → Sto → Prop} (hob : s.ob id = some ⟨84, 2, [a, .arr j n]⟩) (hoj : s.ob j = some ⟨5, 1, bytesD acc⟩) (hn : n = acc.size) (h0 : 0 < acc.size)
    (hK : K (.v (.string acc)) ⟨upd (upd s.ob j none) id none, s.nx⟩) : SCall Tryz.prog 45 [.ref id 0] s K := fun w0 F0 β w vals hs hx => by
  match vals, hx.1 with
  | [x0], _ =>
  obtain ⟨bk, c, hb, rfl⟩ := rv_ref (hx.2 0 _ _ rfl rfl)
  rcases hs.obs id _ hob with g | ⟨b', c', cur, g1, g2, g3, g4, g5, g6, g7⟩
  · rw [g.1] at hb; cases hb
  rw [g1] at hb
  simp only [Option.some.injEq, Prod.mk.injEq] at hb
  obtain ⟨rfl, rfl⟩ := hb
  obtain ⟨x1, hx1, hr1⟩ := g7 1 _ rfl
  rcases rv_arr hr1 with ⟨g, cg, hg, hlc, rfl⟩ | ⟨_, hz, _⟩
  case inr => omega
  rcases hs.obs j _ hoj with q | ⟨bg, c2, cur2, q1, q2, q3, q4, q5, q6, q7⟩
  · rw [q.1] at hg; cases hg
  rw [q1] at hg
  simp only [Option.some.injEq, Prod.mk.injEq] at hg
  obtain ⟨rfl, rfl⟩ := hg
  have q4 : cur2.size = c2 * 1 := q4
  replace g3 : w.heap[b']? = some (.cells cur 84 (0, 0)) := g3
  replace q3 : w.heap[bg]? = some (.cells cur2 5 (0, 0)) := q3
  have q6 : (bytesD acc).length ≤ cur2.size := q6
  rw [bytesD_len] at q6
  have hsz : acc.data.toList.length = acc.size := ba_len acc
  have hcell1 : w.cell? ⟨b', 1, none⟩ = some (.slice (some ⟨bg, 0, none⟩) acc.data.toList.length c2) := by rw [Lib.cell_of_heap g3, hx1, hn, hsz]
  have hcs : ∀ (k : Nat) x, acc.data.toList[k]? = some x → w.cell? ⟨bg, k, none⟩ = some (.int .u8 x.toNat) := fun k x hk => by
    obtain ⟨y, hy, hr⟩ := q7 k (.v (.int .u8 x.toNat)) (by show (bytesD acc)[k]? = _; simp only [bytesD, Lib.strCells, List.map_map, List.getElem?_map, hk]; rfl)
    rw [Lib.cell_of_heap q3, hy, rv_v hr]
  refine (str_kit b' bg c2 cur2 acc.data.toList w hcell1 q3 (fun e => by rw [e] at hsz; simp at hsz; omega) (by omega) q5 (by omega) hcs).mono fun e w' ⟨he, hw⟩ => ?_
  have hfz : ∀ k, k ≠ bg → w'.heap[k]? = w.heap[k]? := fun k hk => by
    subst hw
    unfold World.freeze
    split
    · rfl
    · simp only [Array.getElem?_modify]
      rw [if_neg (fun e => hk e.symm)]; rfl
  have hbel : BelowD bg w w' := .of (by subst hw; exact Lib.below_freeze (Below.drew (Below.refl bg w)) (p := ⟨bg, 0, none⟩) (Nat.le_refl _) _) (fun e => by cases e)
  obtain ⟨k1, k2⟩ := SRel.spoil hs j _ hoj bg c2 q1 w' hbel hfz
  obtain ⟨d1, d2⟩ := k1.drop id
  exact ⟨_, _, _, β, he, hK, d1, (k2 _).trans (d2 _), Nat.le_refl _, .data (.v _ rfl)⟩
set_option maxHeartbeats 2000000 in
set_option maxRecDepth 100000 in
theorem strn_kit (b : Nat) (w : World) (hc1 : w.cell? ⟨b, 1, none⟩ = some (.slice none 0 0)) : Calls Tryz.prog 45 #[.pointer (some ⟨b, 0, none⟩)] w fun e w' => e = .returned (.string ⟨#[]⟩) ∧ w' = w.drew := by
  have hUS : ∀ W : World, (Builtin.unsafeString_ #[124, 3] 9 #[.pointer none, .int .i64 0]).run Tryz.prog W = .ok (.string .empty) W := fun W => Lib.run_unsafeString_none W _ _ _ none
  have c1 : w.drew.cell? ⟨b, 1, none⟩ = some (.slice none 0 0) := hc1
  have hSD : (Builtin.unsafeSliceData_ #[82] 124 #[.slice none 0 0]).run Tryz.prog w.drew = .ok (.pointer none) w.drew := rfl
  have mixed := Tryz.laysJoin.mixed
  go_enter Tryz.func45, Tryz.ntmps45
  go_wp2
  go_region_o
  all_goals (go_wp2; go_ret; exact ⟨rfl, rfl⟩)
theorem strn45_S {id : Nat} {a : DV} {s : Sto} {K : DV → Sto → Prop} (hob : s.ob id = some ⟨84, 2, [a, .v (.slice none 0 0)]⟩) (hK : K (.v (.string ⟨#[]⟩)) s) : SCall Tryz.prog 45 [.ref id 0] s K := fun w0 F0 β w vals hs hx => by
  match vals, hx.1 with
  | [x0], _ =>
  obtain ⟨bk, c, hb, rfl⟩ := rv_ref (hx.2 0 _ _ rfl rfl)
  rcases hs.obs id _ hob with g | ⟨b', c', cur, g1, g2, g3, g4, g5, g6, g7⟩
  · rw [g.1] at hb; cases hb
  rw [g1] at hb
  simp only [Option.some.injEq, Prod.mk.injEq] at hb
  obtain ⟨rfl, rfl⟩ := hb
  obtain ⟨x1, hx1, hr1⟩ := g7 1 _ rfl
  have e1 := rv_v hr1
  subst e1
  replace g3 : w.heap[b']? = some (.cells cur 84 (0, 0)) := g3
  refine (strn_kit b' w (by rw [Lib.cell_of_heap g3]; exact hx1)).mono fun e w' ⟨he, hw⟩ => ?_
  subst hw
  obtain ⟨k1, k2⟩ := hs.below' (BelowD.of (Below.drew (Below.refl _ _)) (fun e => by cases e))
  exact ⟨_, _, s, β, he, hK, k1, k2 _, Nat.le_refl _, .data (.v _ rfl)⟩
end Go.Proofs.YtagfmppjlfhmeaaGreatDoor
namespace Go.Proofs.YtagfmppjlfhmeaaGreatDoor
open Go.RowKit Go.Dl
attribute [local irreducible] Tri SCall TSem ECall Drawn DFun QSem PSem PCall GCall MCall Round Weak dloadE OW DWl Tells IntKind.wrap Retold ESem
def plusB : ByteArray := ⟨#[43, 32]⟩
def minusB : ByteArray := ⟨#[45, 32]⟩
def wavB : ByteArray := ⟨#[126, 32]⟩
def isB : ByteArray := ⟨#[32, 61, 32]⟩
def toB : ByteArray := ⟨#[32, 62, 32]⟩
def nlB : ByteArray := ⟨#[10]⟩
def lineC (c : Ch) : ByteArray := bif !c.hw then plusB ++ c.p ++ isB ++ c.is else bif !c.hi then minusB ++ c.p ++ isB ++ c.was else wavB ++ c.p ++ isB ++ c.was ++ toB ++ c.is
def Sm1 (c : Ch) : Prop := c.p.size ≤ 1600000 ∧ c.was.size ≤ 1600000 ∧ c.is.size ≤ 1600000
theorem lit_sz : plusB.size = 2 ∧ minusB.size = 2 ∧ wavB.size = 2 ∧ isB.size = 3 ∧ toB.size = 3 ∧ nlB.size = 1 := ⟨rfl, rfl, rfl, rfl, rfl, rfl⟩
theorem line_sz {c : Ch} (h : Sm1 c) : (lineC c).size ≤ 4800008 := by
  obtain ⟨h1, h2, h3⟩ := h
  obtain ⟨e1, e2, e3, e4, e5, _⟩ := lit_sz
  unfold lineC
  cases c.hw <;> cases c.hi <;> simp only [Bool.not_true, Bool.not_false, cond_true, cond_false, ByteArray.size_append] <;> omega
set_option maxRecDepth 20000 in
theorem line43_D (c : Ch) (h : Sm1 c) : DPure Tryz.prog 43 [.agg (chD c)] (strV (lineC c)) := by
  obtain ⟨p, hw, was, hi, is⟩ := c
  obtain ⟨h1, h2, h3⟩ := h
  simp only at h1 h2 h3
  obtain ⟨e1, e2, e3, e4, e5, _⟩ := lit_sz
  cases hw <;> cases hi
  all_goals
    refine DFun.data (DFun.body Tryz.func43 rfl (by kernel_rfl) ?_)
    repeat' (first | with_reducible rfl | ((conv => whnf); first | refine And.intro ?_ ?_ | (intro h; first | with_reducible exact tf_no h | with_reducible exact ft_no h | exact Bool.noConfusion h | with_reducible exact h | (have ht : true = true := h; clear ht h) | skip) | ((with_reducible refine ECall.mark ?_); first | refine ECall.only ?_ (fun h => nomatch h) | refine ECall.only ?_ ?_) | ((with_reducible refine Drawn.mark ?_); first | refine Drawn.quiet (by kernel_rfl) ?_) | refine dloadE_map (ch0) ?_ ?_ | refine dcell_ok rfl ?_ | refine AppC.new ?_))
    all_goals try first | ((with_reducible show Option.isSome (slElem _ _) = true); kernel_rfl) | ((with_reducible show slElem _ _ = some _); kernel_rfl) | ((with_reducible refine enters_mark ?_); kernel_rfl) | (with_reducible assumption) | ((with_reducible show List.all _ DV.one = true); rfl) | ((with_reducible show (_ : Nat) = _); rfl) | ((with_reducible show (_ == true) = true); first | (simp; done) | simpa using h) | ((with_reducible show (_ : Nat) ≤ _); exact Nat.le_of_ble_eq_true rfl) | ((with_reducible show (_ : Int) ≤ _); first | omega | decide) | ((with_reducible show (_ : Int) < _); first | omega | decide) | ((with_reducible show (_ : Nat) < _); omega) | ((with_reducible show (_ : Nat) ≤ _); omega)
    all_goals try ((with_reducible show _ ≤ 9223372036854775807); simp only [ByteArray.size_append]; first | (change plusB.size + _ + isB.size + _ ≤ _; omega) | (change plusB.size + _ + isB.size ≤ _; omega) | (change plusB.size + _ ≤ _; omega) | (change minusB.size + _ + isB.size + _ ≤ _; omega) | (change minusB.size + _ + isB.size ≤ _; omega) | (change minusB.size + _ ≤ _; omega) | (change wavB.size + _ + isB.size + _ + toB.size + _ ≤ _; omega) | (change wavB.size + _ + isB.size + _ + toB.size ≤ _; omega) | (change wavB.size + _ + isB.size + _ ≤ _; omega) | (change wavB.size + _ + isB.size ≤ _; omega) | (change wavB.size + _ ≤ _; omega))
    all_goals (conv => whnf)
    all_goals exact Tells.mk (DW.same _ rfl)
set_option maxRecDepth 20000 in
theorem line46_D (c : Ch) (h : Sm1 c) : DPure Tryz.prog 46 [.agg (chD c)] (strV (lineC c)) := by
  obtain ⟨p, hw, was, hi, is⟩ := c
  obtain ⟨h1, h2, h3⟩ := h
  simp only at h1 h2 h3
  obtain ⟨e1, e2, e3, e4, e5, _⟩ := lit_sz
  cases hw <;> cases hi
  all_goals
    refine DFun.data (DFun.body Tryz.func46 rfl (by kernel_rfl) ?_)
    repeat' (first | with_reducible rfl | ((conv => whnf); first | refine And.intro ?_ ?_ | (intro h; first | with_reducible exact tf_no h | with_reducible exact ft_no h | exact Bool.noConfusion h | with_reducible exact h | (have ht : true = true := h; clear ht h) | skip) | ((with_reducible refine ECall.mark ?_); first | refine ECall.only ?_ (fun h => nomatch h) | refine ECall.only ?_ ?_) | ((with_reducible refine Drawn.mark ?_); first | refine Drawn.quiet (by kernel_rfl) ?_) | refine dloadE_map (ch0) ?_ ?_ | refine dcell_ok rfl ?_ | refine AppC.new ?_))
    all_goals try first | ((with_reducible show Option.isSome (slElem _ _) = true); kernel_rfl) | ((with_reducible show slElem _ _ = some _); kernel_rfl) | ((with_reducible refine enters_mark ?_); kernel_rfl) | (with_reducible assumption) | ((with_reducible show List.all _ DV.one = true); rfl) | ((with_reducible show (_ : Nat) = _); rfl) | ((with_reducible show (_ == true) = true); first | (simp; done) | simpa using h) | ((with_reducible show (_ : Nat) ≤ _); exact Nat.le_of_ble_eq_true rfl) | ((with_reducible show (_ : Int) ≤ _); first | omega | decide) | ((with_reducible show (_ : Int) < _); first | omega | decide) | ((with_reducible show (_ : Nat) < _); omega) | ((with_reducible show (_ : Nat) ≤ _); omega)
    all_goals try ((with_reducible show _ ≤ 9223372036854775807); simp only [ByteArray.size_append]; first | (change plusB.size + _ + isB.size + _ ≤ _; omega) | (change plusB.size + _ + isB.size ≤ _; omega) | (change plusB.size + _ ≤ _; omega) | (change minusB.size + _ + isB.size + _ ≤ _; omega) | (change minusB.size + _ + isB.size ≤ _; omega) | (change minusB.size + _ ≤ _; omega) | (change wavB.size + _ + isB.size + _ + toB.size + _ ≤ _; omega) | (change wavB.size + _ + isB.size + _ + toB.size ≤ _; omega) | (change wavB.size + _ + isB.size + _ ≤ _; omega) | (change wavB.size + _ + isB.size ≤ _; omega) | (change wavB.size + _ ≤ _; omega))
    all_goals (conv => whnf)
    all_goals exact Tells.mk (DW.same _ rfl)
end Go.Proofs.YtagfmppjlfhmeaaGreatDoor
namespace Go.Proofs.YtagfmppjlfhmeaaGreatDoor
open Go.RowKit Go.Dl
attribute [local irreducible] Tri SCall TSem ECall Drawn DFun QSem PSem PCall GCall MCall Round Weak dloadE OW DWl Tells IntKind.wrap Retold ESem
theorem bytesD_app (a b : ByteArray) : bytesD (a ++ b) = bytesD a ++ bytesD b := by simp [bytesD, Lib.strCells]
theorem bytesD_all (a : ByteArray) : (bytesD a).all noId1 = true := by
  rw [List.all_eq_true]
  intro d hd
  obtain ⟨v, _, rfl⟩ := List.mem_map.1 hd
  rfl
theorem app82 {x y : Operand} {s : Sto} {ρ : Operand → DV} {K : DV → Sto → Prop} {id n : Nat} {o : DObj} {str : ByteArray} (hx : ρ x = .arr id n) (hy : ρ y = .v (.string str)) (hob : s.ob id = some o) (he : o.elem = 5) (hos : o.sz = 1) (hn : o.cells.length = n) (hlen : n + str.size ≤ 140737488355328)
    (hK : K (.arr s.nx (n + str.size)) ⟨upd (upd s.ob id none) s.nx (some ⟨5, 1, o.cells ++ bytesD str⟩), s.nx + 1⟩) : ESem Tryz.prog s (.call ⟨.builtin .append, #[x, y], #[82, 9]⟩) ρ K := by
  obtain ⟨i0, hi, hz0, hz1, hz2⟩ := info_parts extraJ.infoByte
  exact esem_appStr Tryz.underlying82 Tryz.underlying9 hi hz0 hz1 hz2 hx hy hob he hos hn hlen hK
theorem cc67_U {id : Nat} {b : DV} {s : Sto} {K : DV → Sto → Prop} (hob : s.ob id = some ⟨84, 2, [.ref id 0, b]⟩) (hK : K (.tup []) ⟨upd s.ob id (some ⟨84, 2, [.ref id 0, b]⟩), s.nx⟩) : SCall Tryz.prog 67 [.ref id 0] s K := cc67_S (f := false) hob hK
theorem cc67_F {id : Nat} {b : DV} {s : Sto} {K : DV → Sto → Prop} (hob : s.ob id = some ⟨84, 2, [.v (.pointer none), b]⟩) (hK : K (.tup []) ⟨upd s.ob id (some ⟨84, 2, [.ref id 0, b]⟩), s.nx⟩) : SCall Tryz.prog 67 [.ref id 0] s K := cc67_S (f := true) hob hK
def textP (c : List Ch) : Nat → ByteArray
  | 0 => emB
  | i + 1 => textP c i ++ lineC (c.getD i ch0) ++ nlB
theorem sm_at {c : List Ch} (h : SmC c) (i : Nat) : Sm1 (c.getD i ch0) := by
  rw [List.getD_eq_getElem?_getD]
  cases e : c[i]? with
  | none => exact ⟨Nat.zero_le _, Nat.zero_le _, Nat.zero_le _⟩
  | some x =>
    obtain ⟨h1, h2, h3⟩ := h.2 x (List.mem_of_getElem? e)
    exact ⟨Nat.le_trans h1 (by decide), Nat.le_trans h2 (by decide), Nat.le_trans h3 (by decide)⟩
theorem tp_sz {c : List Ch} (h : SmC c) : ∀ i, (textP c i).size ≤ i * 4800009
  | 0 => Nat.le_refl _
  | i + 1 => by
    have ih := tp_sz h i
    have := line_sz (sm_at h i)
    have e : nlB.size = 1 := rfl
    rw [textP, ByteArray.size_append, ByteArray.size_append]; omega
theorem tp_pos (c : List Ch) (i : Nat) : 0 < (textP c (i + 1)).size := by
  have e : nlB.size = 1 := rfl
  rw [textP, ByteArray.size_append]; omega
theorem tp_cells (c : List Ch) (i : Nat) : (bytesD (textP c i) ++ bytesD (lineC (c.getD i ch0))).take (((textP c i).size + (lineC (c.getD i ch0)).size) * 1) ++ [.v (.int .u8 10)] = bytesD (textP c (i + 1)) := by
  rw [List.take_of_length_le (by rw [List.length_append, bytesD_len, bytesD_len]; omega), textP, bytesD_app, bytesD_app]; rfl
theorem tp_len (c : List Ch) (i : Nat) : (textP c i).size + (lineC (c.getD i ch0)).size + 1 = (textP c (i + 1)).size := by
  rw [textP, ByteArray.size_append, ByteArray.size_append]; rfl
def pSt (c : List Ch) (i : Nat) : St := ⟨0, tmOf [(3, .ref 0 0), (6, chs c), (7, int1 (c.map chD).length), (8, int1 i)], .of [(0, ⟨84, 2, [aB 0 (Nat.beq i 0), .arr 1 (textP c i).size]⟩), (1, ⟨5, 1, bytesD (textP c i)⟩)] 2⟩
theorem tp_0 (c : List Ch) : textP c 0 = emB := rfl
theorem bd_z (c : List Ch) : 0 = (textP c 0).size := rfl
theorem _root_.Go.Dl.DW.nilArrE {ρ : Nat → Option Nat} {s : Sto} {pub : Nat → Prop} {id n : Nat} (h : ρ id = none) (hn : 0 = n) : DW ρ s pub (.v (.slice none 0 0)) (.arr id n) := by subst hn; exact DW.nilArr _ h
theorem bd_0 (c : List Ch) : bytesD (textP c 0) = [] := rfl
theorem bd_l (c : List Ch) (i : Nat) : (bytesD (textP c i)).length = (textP c i).size := bytesD_len _
set_option maxRecDepth 20000 in
theorem bp_1 (a b : ByteArray) : (a.size + b.size) * Tryz.prog.types[5].size ≤ (bytesD a ++ bytesD b).length := by
  show _ * 1 ≤ _
  rw [List.length_append, bytesD_len, bytesD_len]; omega
set_option maxRecDepth 20000 in
theorem bp_2 {a b : ByteArray} (ha : a.size ≤ 100000000000000) (hb : b.size ≤ 4800008) : (a.size + b.size + 1) * Tryz.prog.types[5].bytes ≤ 140737488355328 := by
  show _ * 1 ≤ _
  omega
theorem bp_3 {a b : ByteArray} (ha : a.size ≤ 100000000000000) (hb : b.size ≤ 4800008) : a.size + b.size + 1 ≤ maxLen := by simp only [maxLen]; omega
attribute [local irreducible] lineC bytesD textP
set_option maxRecDepth 100000 in
set_option maxHeartbeats 2000000 in
theorem print18_D (c : List Ch) (hs : SmC c) : DPure Tryz.prog 18 [chs c] (strV (textP c c.length)) := by
  have hlb : c.length ≤ 9223372036854775807 := Nat.le_trans hs.1 (by decide)
  rcases c with _ | ⟨x, l⟩
  · refine DFun.data (DFun.body Tryz.func18 rfl (by kernel_rfl) ?_)
    repeat' (first | with_reducible rfl | ((conv => whnf); first | refine And.intro ?_ ?_ | (intro h; first | with_reducible exact tf_no h | with_reducible exact ft_no h | exact Bool.noConfusion h | with_reducible exact h | (have ht : true = true := h; clear ht h) | skip) | ((with_reducible refine ECall.mark ?_); first | refine ECall.only ?_ (fun h => nomatch h) | refine ECall.only ?_ ?_) | ((with_reducible refine Drawn.mark ?_); first | refine Drawn.quiet (by kernel_rfl) ?_) | refine dloadE_map (ch0) ?_ ?_ | refine dcell_ok rfl ?_ | refine AppC.new ?_))
    all_goals first | (with_reducible refine enters_mark ?_; kernel_rfl) | (with_reducible refine boolT_mark ?_; kernel_rfl) | rfl | trivial | assumption | exact Nat.le_of_ble_eq_true rfl | (show entersB _ _ = true; kernel_rfl) | exact DW.same _ rfl | exact DW.ref _ _ _ rfl | exact DW.arr _ _ _ rfl | refine DW.int ?_ | refine dvb ?_ | refine dvi ?_ | exact OW.cells rfl rfl (DWl.same rfl) | exact Nat.zero_le _ | omega | skip
    all_goals repeat' (first | refine OW.cells rfl rfl ?_ | exact DW.nilArr _ rfl | refine DWl.cons ?_ ?_ | exact DWl.nil | exact DW.same _ rfl | exact DW.ref _ _ _ rfl | exact DW.arr _ _ _ rfl | exact DW.sub _ _ _ _ rfl | exact DW.mo _ _ rfl | exact DW.nilLst _ | refine DW.aggl ?_ | refine DW.tupl ?_ | refine DW.clol ?_ ?_)
    all_goals try ((conv => whnf); with_reducible first | refine Round.mark ?_ | refine Tells.mark ?_ | refine Retold.mark ?_)
    all_goals try first | (show (_ : Bool) = _; simp_all; done) | (show (_ : Int) < _; simp at *; omega) | (show (_ : Int) ≤ _; simp at *; omega) | (show (_ : Nat) < _; simp at *; omega) | (show (_ : Nat) ≤ _; simp at *; omega)
    repeat' (first | with_reducible rfl | ((conv => whnf); first | refine And.intro ?_ ?_ | (intro h; first | with_reducible exact tf_no h | with_reducible exact ft_no h | exact Bool.noConfusion h | with_reducible exact h | (have ht : true = true := h; clear ht h) | skip) | ((with_reducible refine SCall.mark ?_); first | refine strn45_S rfl ?_) | ((with_reducible refine Tri.mark ?_); first | refine Tri.rounds 1 (by kernel_rfl) ?_) | ((with_reducible refine ECall.mark ?_); first | refine ECall.only ?_ (fun h => nomatch h) | refine ECall.only ?_ ?_) | ((with_reducible refine Drawn.mark ?_); first | refine Drawn.quiet (by kernel_rfl) ?_) | refine dloadE_map (ch0) ?_ ?_ | refine dcell_ok rfl ?_ | refine AppC.new ?_))
    all_goals try first | ((with_reducible show Option.isSome (slElem _ _) = true); kernel_rfl) | ((with_reducible show slElem _ _ = some _); kernel_rfl) | ((with_reducible refine enters_mark ?_); kernel_rfl) | (with_reducible assumption) | ((with_reducible show List.all _ DV.one = true); rfl) | ((with_reducible show (_ : Nat) = _); rfl) | ((with_reducible show (_ == true) = true); first | (simp; done) | simpa using h) | ((with_reducible show (_ : Nat) ≤ _); exact Nat.le_of_ble_eq_true rfl) | ((with_reducible show (_ : Int) ≤ _); first | omega | decide) | ((with_reducible show (_ : Int) < _); first | omega | decide) | ((with_reducible show (_ : Nat) < _); omega) | ((with_reducible show (_ : Nat) ≤ _); omega)
    all_goals (conv => whnf)
    all_goals exact Tells.of (congrArg strV (tp_0 [])) (Tells.mk (DW.same _ rfl))
  · generalize hc : x :: l = c at *
    have hpos : 0 < c.length := by rw [← hc]; exact Nat.succ_pos _
    refine DFun.data (DFun.body Tryz.func18 rfl (by kernel_rfl) ?_)
    repeat' (first | with_reducible rfl | ((conv => whnf); first | refine And.intro ?_ ?_ | (intro h; first | with_reducible exact tf_no h | with_reducible exact ft_no h | exact Bool.noConfusion h | with_reducible exact h | (have ht : true = true := h; clear ht h) | skip) | ((with_reducible refine ECall.mark ?_); first | refine ECall.only ?_ (fun h => nomatch h) | refine ECall.only ?_ ?_) | ((with_reducible refine Drawn.mark ?_); first | refine Drawn.quiet (by kernel_rfl) ?_) | refine dloadE_map (ch0) ?_ ?_ | refine dcell_ok rfl ?_ | refine AppC.new ?_))
    all_goals first | (with_reducible refine enters_mark ?_; kernel_rfl) | (with_reducible refine boolT_mark ?_; kernel_rfl) | rfl | trivial | assumption | exact Nat.le_of_ble_eq_true rfl | (show entersB _ _ = true; kernel_rfl) | exact DW.same _ rfl | exact DW.ref _ _ _ rfl | exact DW.arr _ _ _ rfl | refine DW.int ?_ | refine dvb ?_ | refine dvi ?_ | exact OW.cells rfl rfl (DWl.same rfl) | exact Nat.zero_le _ | omega | skip
    all_goals repeat' (first | refine OW.cells rfl rfl ?_ | exact DW.nilArr _ rfl | refine DWl.cons ?_ ?_ | exact DWl.nil | exact DW.same _ rfl | exact DW.ref _ _ _ rfl | exact DW.arr _ _ _ rfl | exact DW.sub _ _ _ _ rfl | exact DW.mo _ _ rfl | exact DW.nilLst _ | refine DW.aggl ?_ | refine DW.tupl ?_ | refine DW.clol ?_ ?_)
    all_goals try ((conv => whnf); with_reducible first | refine Round.mark ?_ | refine Tells.mark ?_ | refine Retold.mark ?_)
    all_goals try first | (show (_ : Bool) = _; simp_all; done) | (show (_ : Int) < _; simp at *; omega) | (show (_ : Int) ≤ _; simp at *; omega) | (show (_ : Nat) < _; simp at *; omega) | (show (_ : Nat) ≤ _; simp at *; omega)
    conv => whnf
    refine Tri.loop (pSt c) (· ≤ c.length) (fun i => c.length - i) 0 (by kernel_rfl) (Weak.list [(0, some 0), (1, none)] [] (by kernel_rfl) ?_ ?_) (Nat.zero_le _) ?_
    iterate 2 · repeat' (first | exact DW.nilArrE rfl (bd_z c) | exact bd_0 c | exact DW.same _ rfl | exact DW.ref _ _ _ rfl | exact DW.arr _ _ _ rfl | exact OW.cells rfl rfl (DWl.same rfl) | refine OW.cells rfl rfl ?_ | refine DWl.cons ?_ ?_ | exact DWl.nil | exact DW.nilArr _ rfl | exact DW.nilLst _ | refine DW.clol ?_ ?_ | refine DW.aggl ?_ | refine DW.tupl ?_ | refine DW.int ?_ | refine DW.bool ?_ | refine DW.str ?_ | refine DW.arrE rfl ?_ | ((conv => whnf); first | refine And.intro ?_ ?_ | trivial))
    intro i hi
    have hi : i ≤ c.length := hi
    have hz := tp_sz hs i
    have h1 := hs.1
    have hz2 : (textP c i).size ≤ 100000000000000 := by omega
    have hln := line_sz (sm_at hs i)
    have hli := line43_D _ (sm_at hs i)
    by_cases hia : i < c.length
    · have hdi := lt_len (f := chD) hia
      rcases i with _ | i
      · show dcode _ _ _ _ (pSt c 0) _
        repeat' (first | with_reducible rfl | ((conv => whnf); first | refine And.intro ?_ ?_ | (intro h; first | with_reducible exact tf_no h | with_reducible exact ft_no h | exact Bool.noConfusion h | with_reducible exact h | (exfalso; exact bt_x hdi h) | (have ht : true = true := h; clear ht h) | skip) | ((with_reducible refine SCall.mark ?_); first | refine SCall.data (hli) rfl rfl ?_ | refine SCall.scal (hli) rfl rfl ?_ | refine SCall.run Tryz.func42 rfl (Nat.le_of_ble_eq_true rfl) (by kernel_rfl) ?_ | refine SCall.run Tryz.func44 rfl (Nat.le_of_ble_eq_true rfl) (by kernel_rfl) ?_ | refine cc67_F rfl ?_ | refine cc67_U rfl ?_) | ((with_reducible refine PCall.mark ?_); first | refine PCall.mk (hli) rfl rfl ?_) | ((with_reducible refine GCall.mark ?_); first | refine GCall.data (fun _ => hli) rfl rfl ?_ | refine GCall.scal (fun _ => hli) rfl rfl ?_) | ((with_reducible refine MCall.mark ?_); first | refine MCall.data (fun _ => hli) rfl rfl ?_ | refine MCall.plain (PCall.mk (hli) rfl rfl ?_)) | ((with_reducible refine ECall.mark ?_); first | refine ECall.only ?_ (fun h => nomatch h) | refine ECall.only ?_ ?_) | ((with_reducible refine Drawn.mark ?_); first | refine Drawn.quiet (by kernel_rfl) ?_) | refine dloadE_map (ch0) ?_ ?_ | refine app82 rfl rfl rfl rfl rfl ?_ ?_ ?_ | refine dcell_ok rfl ?_ | refine AppC.new ?_))
        all_goals try ((conv => whnf); with_reducible refine Round.mark ?_)
        all_goals try first | ((with_reducible show Option.isSome (slElem _ _) = true); kernel_rfl) | ((with_reducible show slElem _ _ = some _); kernel_rfl) | ((with_reducible refine enters_mark ?_); kernel_rfl) | (with_reducible assumption) | ((with_reducible show List.all _ DV.one = true); rfl) | ((with_reducible show (_ : Nat) = _); rfl) | ((with_reducible show (_ == true) = true); first | (simp; done) | simpa using h) | ((with_reducible show (_ : Nat) ≤ _); exact Nat.le_of_ble_eq_true rfl) | ((with_reducible show (_ : Int) ≤ _); first | omega | decide) | ((with_reducible show (_ : Int) < _); first | omega | decide) | ((with_reducible show (_ : Nat) < _); omega) | ((with_reducible show (_ : Nat) ≤ _); omega)
        all_goals try (first | (exact lt_map hia; done) | (exact hia; done) | (with_reducible exact i_ge _) | ((with_reducible show _ = ByteArray.size _); exact bd_l c _) | ((with_reducible show isStr _ _ = true); kernel_rfl) | ((with_reducible show _ * _ ≤ List.length _); exact bp_1 _ _) | ((with_reducible show _ * _ ≤ _); exact bp_2 hz2 hln) | ((with_reducible show _ ≤ maxLen); exact bp_3 hz2 hln) | ((with_reducible show _ + _ ≤ 140737488355328); exact bp_4 hz2 hln))
        refine Round.go (fun _ => 0 + 1) hia (by show c.length - (0 + 1) < c.length - 0; omega) (Weak.list [(0, some 0), (1, some 5)] [] (by kernel_rfl) ?_ ?_)
        iterate 2 · repeat' (first | exact wsucc hia hlb | exact DW.arrE rfl (tp_len c _) | exact DWl.eq (tp_cells c _) (bytesD_all _) | exact DW.same _ rfl | exact DW.ref _ _ _ rfl | exact DW.arr _ _ _ rfl | exact OW.cells rfl rfl (DWl.same rfl) | refine OW.cells rfl rfl ?_ | refine DWl.cons ?_ ?_ | exact DWl.nil | exact DW.nilArr _ rfl | exact DW.nilLst _ | refine DW.clol ?_ ?_ | refine DW.aggl ?_ | refine DW.tupl ?_ | refine DW.int ?_ | refine DW.bool ?_ | refine DW.str ?_ | refine DW.arrE rfl ?_ | ((conv => whnf); first | refine And.intro ?_ ?_ | trivial))
      · show dcode _ _ _ _ (pSt c (i + 1)) _
        repeat' (first | with_reducible rfl | ((conv => whnf); first | refine And.intro ?_ ?_ | (intro h; first | with_reducible exact tf_no h | with_reducible exact ft_no h | exact Bool.noConfusion h | with_reducible exact h | (exfalso; exact bt_x hdi h) | (have ht : true = true := h; clear ht h) | skip) | ((with_reducible refine SCall.mark ?_); first | refine SCall.data (hli) rfl rfl ?_ | refine SCall.scal (hli) rfl rfl ?_ | refine SCall.run Tryz.func42 rfl (Nat.le_of_ble_eq_true rfl) (by kernel_rfl) ?_ | refine SCall.run Tryz.func44 rfl (Nat.le_of_ble_eq_true rfl) (by kernel_rfl) ?_ | refine cc67_U rfl ?_) | ((with_reducible refine PCall.mark ?_); first | refine PCall.mk (hli) rfl rfl ?_) | ((with_reducible refine GCall.mark ?_); first | refine GCall.data (fun _ => hli) rfl rfl ?_ | refine GCall.scal (fun _ => hli) rfl rfl ?_) | ((with_reducible refine MCall.mark ?_); first | refine MCall.data (fun _ => hli) rfl rfl ?_ | refine MCall.plain (PCall.mk (hli) rfl rfl ?_)) | ((with_reducible refine ECall.mark ?_); first | refine ECall.only ?_ (fun h => nomatch h) | refine ECall.only ?_ ?_) | ((with_reducible refine Drawn.mark ?_); first | refine Drawn.quiet (by kernel_rfl) ?_) | refine dloadE_map (ch0) ?_ ?_ | refine app82 rfl rfl rfl rfl rfl ?_ ?_ ?_ | refine dcell_ok rfl ?_ | refine AppC.new ?_))
        all_goals try ((conv => whnf); with_reducible refine Round.mark ?_)
        all_goals try first | ((with_reducible show Option.isSome (slElem _ _) = true); kernel_rfl) | ((with_reducible show slElem _ _ = some _); kernel_rfl) | ((with_reducible refine enters_mark ?_); kernel_rfl) | (with_reducible assumption) | ((with_reducible show List.all _ DV.one = true); rfl) | ((with_reducible show (_ : Nat) = _); rfl) | ((with_reducible show (_ == true) = true); first | (simp; done) | simpa using h) | ((with_reducible show (_ : Nat) ≤ _); exact Nat.le_of_ble_eq_true rfl) | ((with_reducible show (_ : Int) ≤ _); first | omega | decide) | ((with_reducible show (_ : Int) < _); first | omega | decide) | ((with_reducible show (_ : Nat) < _); omega) | ((with_reducible show (_ : Nat) ≤ _); omega)
        all_goals try (first | (exact lt_map hia; done) | (exact hia; done) | (with_reducible exact i_ge _) | ((with_reducible show _ = ByteArray.size _); exact bd_l c _) | ((with_reducible show isStr _ _ = true); kernel_rfl) | ((with_reducible show _ * _ ≤ List.length _); exact bp_1 _ _) | ((with_reducible show _ * _ ≤ _); exact bp_2 hz2 hln) | ((with_reducible show _ ≤ maxLen); exact bp_3 hz2 hln) | ((with_reducible show _ + _ ≤ 140737488355328); exact bp_4 hz2 hln))
        refine Round.go (fun _ => (i + 1) + 1) hia (by show c.length - ((i + 1) + 1) < c.length - (i + 1); omega) (Weak.list [(0, some 0), (1, some 5)] [] (by kernel_rfl) ?_ ?_)
        iterate 2 · repeat' (first | exact wsucc hia hlb | exact DW.arrE rfl (tp_len c _) | exact DWl.eq (tp_cells c _) (bytesD_all _) | exact DW.same _ rfl | exact DW.ref _ _ _ rfl | exact DW.arr _ _ _ rfl | exact OW.cells rfl rfl (DWl.same rfl) | refine OW.cells rfl rfl ?_ | refine DWl.cons ?_ ?_ | exact DWl.nil | exact DW.nilArr _ rfl | exact DW.nilLst _ | refine DW.clol ?_ ?_ | refine DW.aggl ?_ | refine DW.tupl ?_ | refine DW.int ?_ | refine DW.bool ?_ | refine DW.str ?_ | refine DW.arrE rfl ?_ | ((conv => whnf); first | refine And.intro ?_ ?_ | trivial))
    · have hia := Nat.le_of_not_lt hia
      have hdi := nlt_len (f := chD) hia
      have hie : i = c.length := by omega
      have hp : 0 < (textP c i).size := by
        obtain ⟨k, rfl⟩ : ∃ k, i = k + 1 := ⟨i - 1, by omega⟩
        exact tp_pos c k
      show dcode _ _ _ _ (pSt c i) _
      repeat' (first | with_reducible rfl | ((conv => whnf); first | refine And.intro ?_ ?_ | (intro h; first | with_reducible exact tf_no h | with_reducible exact ft_no h | exact Bool.noConfusion h | with_reducible exact h | (exfalso; exact bt_x hdi h) | (have ht : true = true := h; clear ht h) | skip) | ((with_reducible refine SCall.mark ?_); first | refine str45_S rfl rfl rfl hp ?_) | ((with_reducible refine ECall.mark ?_); first | refine ECall.only ?_ (fun h => nomatch h) | refine ECall.only ?_ ?_) | ((with_reducible refine Drawn.mark ?_); first | refine Drawn.quiet (by kernel_rfl) ?_) | refine dloadE_map (ch0) ?_ ?_ | refine dcell_ok rfl ?_ | refine AppC.new ?_))
      all_goals try first | ((with_reducible show Option.isSome (slElem _ _) = true); kernel_rfl) | ((with_reducible show slElem _ _ = some _); kernel_rfl) | ((with_reducible refine enters_mark ?_); kernel_rfl) | (with_reducible assumption) | ((with_reducible show List.all _ DV.one = true); rfl) | ((with_reducible show (_ : Nat) = _); rfl) | ((with_reducible show (_ == true) = true); first | (simp; done) | simpa using h) | ((with_reducible show (_ : Nat) ≤ _); exact Nat.le_of_ble_eq_true rfl) | ((with_reducible show (_ : Int) ≤ _); first | omega | decide) | ((with_reducible show (_ : Int) < _); first | omega | decide) | ((with_reducible show (_ : Nat) < _); omega) | ((with_reducible show (_ : Nat) ≤ _); omega)
      all_goals (conv => whnf)
      all_goals exact Tells.of (congrArg (fun k => strV (textP c k)) hie.symm) (Tells.mk (DW.same _ rfl))
def qSt (c : List Ch) (i : Nat) : St := ⟨0, tmOf [(0, chs c), (3, .arr 0 (textP c i).size), (4, int1 i)], .of [(0, ⟨5, 1, bytesD (textP c i)⟩)] 1⟩
theorem bt_tk (a : ByteArray) : (bytesD a).take a.size = bytesD a := List.take_of_length_le (by rw [bytesD_len]; omega)
set_option maxRecDepth 100000 in
set_option maxHeartbeats 2000000 in
theorem print19_D (c : List Ch) (hs : SmC c) : DPure Tryz.prog 19 [chs c] (strV (textP c c.length)) := by
  have hlb : c.length ≤ 9223372036854775807 := Nat.le_trans hs.1 (by decide)
  refine DFun.data (DFun.body Tryz.func19 rfl (by kernel_rfl) ?_)
  repeat' (first | with_reducible rfl | ((conv => whnf); first | refine And.intro ?_ ?_ | (intro h; first | with_reducible exact tf_no h | with_reducible exact ft_no h | exact Bool.noConfusion h | with_reducible exact h | (have ht : true = true := h; clear ht h) | skip) | ((with_reducible refine ECall.mark ?_); first | refine ECall.only ?_ (fun h => nomatch h) | refine ECall.only ?_ ?_) | ((with_reducible refine Drawn.mark ?_); first | refine Drawn.quiet (by kernel_rfl) ?_) | refine dloadE_map (ch0) ?_ ?_ | refine dcell_ok rfl ?_ | refine AppC.new ?_))
  all_goals first | (with_reducible refine enters_mark ?_; kernel_rfl) | (with_reducible refine boolT_mark ?_; kernel_rfl) | rfl | trivial | assumption | exact Nat.le_of_ble_eq_true rfl | (show entersB _ _ = true; kernel_rfl) | exact DW.same _ rfl | exact DW.ref _ _ _ rfl | exact DW.arr _ _ _ rfl | refine DW.int ?_ | refine dvb ?_ | refine dvi ?_ | exact OW.cells rfl rfl (DWl.same rfl) | exact Nat.zero_le _ | omega | skip
  all_goals repeat' (first | refine OW.cells rfl rfl ?_ | exact DW.nilArr _ rfl | refine DWl.cons ?_ ?_ | exact DWl.nil | exact DW.same _ rfl | exact DW.ref _ _ _ rfl | exact DW.arr _ _ _ rfl | exact DW.sub _ _ _ _ rfl | exact DW.mo _ _ rfl | exact DW.nilLst _ | refine DW.aggl ?_ | refine DW.tupl ?_ | refine DW.clol ?_ ?_)
  all_goals try ((conv => whnf); with_reducible first | refine Round.mark ?_ | refine Tells.mark ?_ | refine Retold.mark ?_)
  all_goals try first | (show (_ : Bool) = _; simp_all; done) | (show (_ : Int) < _; simp at *; omega) | (show (_ : Int) ≤ _; simp at *; omega) | (show (_ : Nat) < _; simp at *; omega) | (show (_ : Nat) ≤ _; simp at *; omega)
  conv => whnf
  refine Tri.loop (qSt c) (· ≤ c.length) (fun i => c.length - i) 0 (by kernel_rfl) (Weak.list [(0, none)] [] (by kernel_rfl) ?_ ?_) (Nat.zero_le _) ?_
  iterate 2 · repeat' (first | exact DW.nilArrE rfl (bd_z c) | exact bd_0 c | exact DW.same _ rfl | exact DW.ref _ _ _ rfl | exact DW.arr _ _ _ rfl | exact OW.cells rfl rfl (DWl.same rfl) | refine OW.cells rfl rfl ?_ | refine DWl.cons ?_ ?_ | exact DWl.nil | exact DW.nilArr _ rfl | exact DW.nilLst _ | refine DW.clol ?_ ?_ | refine DW.aggl ?_ | refine DW.tupl ?_ | refine DW.int ?_ | refine DW.bool ?_ | refine DW.str ?_ | refine DW.arrE rfl ?_ | ((conv => whnf); first | refine And.intro ?_ ?_ | trivial))
  intro i hi
  have hi : i ≤ c.length := hi
  have hz := tp_sz hs i
  have h1 := hs.1
  have hz2 : (textP c i).size ≤ 100000000000000 := by omega
  have hln := line_sz (sm_at hs i)
  have hli := line46_D _ (sm_at hs i)
  show dcode _ _ _ _ (qSt c i) _
  by_cases hia : i < c.length
  · have hdi := lt_len (f := chD) hia
    repeat' (first | with_reducible rfl | ((conv => whnf); first | refine And.intro ?_ ?_ | (intro h; first | with_reducible exact tf_no h | with_reducible exact ft_no h | exact Bool.noConfusion h | with_reducible exact h | (exfalso; exact bt_x hdi h) | (have ht : true = true := h; clear ht h) | skip) | ((with_reducible refine SCall.mark ?_); first | refine SCall.data (hli) rfl rfl ?_ | refine SCall.scal (hli) rfl rfl ?_) | ((with_reducible refine PCall.mark ?_); first | refine PCall.mk (hli) rfl rfl ?_) | ((with_reducible refine GCall.mark ?_); first | refine GCall.data (fun _ => hli) rfl rfl ?_ | refine GCall.scal (fun _ => hli) rfl rfl ?_) | ((with_reducible refine MCall.mark ?_); first | refine MCall.data (fun _ => hli) rfl rfl ?_ | refine MCall.plain (PCall.mk (hli) rfl rfl ?_)) | ((with_reducible refine ECall.mark ?_); first | refine ECall.only ?_ (fun h => nomatch h) | refine ECall.only ?_ ?_) | ((with_reducible refine Drawn.mark ?_); first | refine Drawn.quiet (by kernel_rfl) ?_) | refine dloadE_map (ch0) ?_ ?_ | refine app82 rfl rfl rfl rfl rfl ?_ ?_ ?_ | refine dcell_ok rfl ?_ | refine AppC.new ?_))
    all_goals try ((conv => whnf); with_reducible refine Round.mark ?_)
    all_goals try first | ((with_reducible show Option.isSome (slElem _ _) = true); kernel_rfl) | ((with_reducible show slElem _ _ = some _); kernel_rfl) | ((with_reducible refine enters_mark ?_); kernel_rfl) | (with_reducible assumption) | ((with_reducible show List.all _ DV.one = true); rfl) | ((with_reducible show (_ : Nat) = _); rfl) | ((with_reducible show (_ == true) = true); first | (simp; done) | simpa using h) | ((with_reducible show (_ : Nat) ≤ _); exact Nat.le_of_ble_eq_true rfl) | ((with_reducible show (_ : Int) ≤ _); first | omega | decide) | ((with_reducible show (_ : Int) < _); first | omega | decide) | ((with_reducible show (_ : Nat) < _); omega) | ((with_reducible show (_ : Nat) ≤ _); omega)
    all_goals try (first | (exact lt_map hia; done) | (exact hia; done) | (with_reducible exact i_ge _) | ((with_reducible show _ = ByteArray.size _); exact bd_l c _) | ((with_reducible show isStr _ _ = true); kernel_rfl) | ((with_reducible show _ * _ ≤ List.length _); exact bp_1 _ _) | ((with_reducible show _ * _ ≤ _); exact bp_2 hz2 hln) | ((with_reducible show _ ≤ maxLen); exact bp_3 hz2 hln) | ((with_reducible show _ + _ ≤ 140737488355328); exact bp_4 hz2 hln))
    refine Round.go (fun _ => i + 1) hia (by show c.length - (i + 1) < c.length - i; omega) (Weak.list [(0, some 3)] [] (by kernel_rfl) ?_ ?_)
    iterate 2 · repeat' (first | exact wsucc hia hlb | exact DW.arrE rfl (tp_len c _) | exact DWl.eq (tp_cells c _) (bytesD_all _) | exact DW.same _ rfl | exact DW.ref _ _ _ rfl | exact DW.arr _ _ _ rfl | exact OW.cells rfl rfl (DWl.same rfl) | refine OW.cells rfl rfl ?_ | refine DWl.cons ?_ ?_ | exact DWl.nil | exact DW.nilArr _ rfl | exact DW.nilLst _ | refine DW.clol ?_ ?_ | refine DW.aggl ?_ | refine DW.tupl ?_ | refine DW.int ?_ | refine DW.bool ?_ | refine DW.str ?_ | refine DW.arrE rfl ?_ | ((conv => whnf); first | refine And.intro ?_ ?_ | trivial))
  · have hia := Nat.le_of_not_lt hia
    have hdi := nlt_len (f := chD) hia
    have hie : i = c.length := by omega
    repeat' (first | with_reducible rfl | ((conv => whnf); first | refine And.intro ?_ ?_ | (intro h; first | with_reducible exact tf_no h | with_reducible exact ft_no h | exact Bool.noConfusion h | with_reducible exact h | (exfalso; exact bt_x hdi h) | (have ht : true = true := h; clear ht h) | skip) | ((with_reducible refine ex_mark ?_); first | refine dq_bstr (textP c i) Tryz.underlying82 Tryz.underlying5 Tryz.underlying9 rfl rfl rfl (bt_tk _) ?_) | ((with_reducible refine ECall.mark ?_); first | refine ECall.only ?_ (fun h => nomatch h) | refine ECall.only ?_ ?_) | ((with_reducible refine Drawn.mark ?_); first | refine Drawn.quiet (by kernel_rfl) ?_) | refine dloadE_map (ch0) ?_ ?_ | refine dcell_ok rfl ?_ | refine AppC.new ?_))
    all_goals try first | ((with_reducible show Option.isSome (slElem _ _) = true); kernel_rfl) | ((with_reducible show slElem _ _ = some _); kernel_rfl) | ((with_reducible refine enters_mark ?_); kernel_rfl) | (with_reducible assumption) | ((with_reducible show List.all _ DV.one = true); rfl) | ((with_reducible show (_ : Nat) = _); rfl) | ((with_reducible show (_ == true) = true); first | (simp; done) | simpa using h) | ((with_reducible show (_ : Nat) ≤ _); exact Nat.le_of_ble_eq_true rfl) | ((with_reducible show (_ : Int) ≤ _); first | omega | decide) | ((with_reducible show (_ : Int) < _); first | omega | decide) | ((with_reducible show (_ : Nat) < _); omega) | ((with_reducible show (_ : Nat) ≤ _); omega)
    all_goals (conv => whnf)
    all_goals exact Tells.of (congrArg (fun k => strV (textP c k)) hie.symm) (Tells.mk (DW.same _ rfl))
end Go.Proofs.YtagfmppjlfhmeaaGreatDoor
