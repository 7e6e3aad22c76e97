/-
  The data-level logic, part 1: abstract values (DV), what they say of real values in a world (RD: immutable data; RV: a frame's values), the store of owned objects, and how all of it is kept when the world moves on.
-/
import Derived.WalkKit
import Derived.WalkSpells
import Derived.WalkLawsBesides
import Derived.Sort.Grow
import Derived.Deep.Draws
import Derived.Laws.StructEq

namespace Go.Dl
open Go Go.RowKit
inductive DV where
  | v (x : Value)
  | lst (sz : Nat) (es : List (List DV))
  | lref (sz : Nat) (es : List (List DV)) (i off : Nat)
  | ref (id off : Nat)
  | arr (id len : Nat)
  | sub (id off len : Nat)
  | agg (cs : List DV)
  | tup (xs : List DV)
  | clo (fn : Fn) (first captured : List DV)
  | ifc (t : TypeId) (d : DV)
  | mp (es : Array MapEntry)
  | mo (id : Nat)
  | when (b : Bool) (d : DV)
  | dead
structure DObj where
  elem : TypeId
  sz : Nat
  cells : List DV
structure Sto where
  ob : Nat → Option DObj
  nx : Nat
abbrev Beta := Nat → Option (Option (Nat × Nat))
inductive RD (w : World) (F : Nat → Prop) : DV → Value → Prop
  | v (x : Value) (h : x.oneCell' = true) : RD w F (.v x) x
  | lst (sz : Nat) (es : List (List DV)) (a : Option Addr) (b off cap : Nat) (g : Nat → Nat → Value)
      (ha : es ≠ [] → a = some ⟨b, off, none⟩) (hn : a = none → cap = 0) (hc : es.length ≤ cap) (hm : cap ≤ maxLen)
      (hsz : ∀ (i : Nat) cs, es[i]? = some cs → cs.length = sz)
      (hcell : ∀ (i : Nat) cs (j : Nat) d, es[i]? = some cs → cs[j]? = some d → w.cell? ⟨b, off + i * sz + j, none⟩ = some (g i j) ∧ F b)
      (hd : ∀ (i : Nat) cs (j : Nat) d, es[i]? = some cs → cs[j]? = some d → RD w F d (g i j)) :
      RD w F (.lst sz es) (.slice a es.length cap)
theorem RD.mono {w w' : World} {F F' : Nat → Prop} {d : DV} {x : Value} (h : RD w F d x)
    (hw : ∀ b, b < w.heap.size → F b → F' b ∧ w'.heap[b]? = w.heap[b]?) : RD w' F' d x := by
  induction h with
  | v x h => exact .v x h
  | lst sz es a b off cap g ha hn hc hm hsz hcell hd ih =>
    refine .lst sz es a b off cap g ha hn hc hm hsz (fun i cs j d h1 h2 => ?_) (fun i cs j d h1 h2 => ih i cs j d h1 h2)
    obtain ⟨h3, h4⟩ := hcell i cs j d h1 h2
    have hlt := World.block_lt_of_cell? w _ h3
    obtain ⟨h5, h6⟩ := hw b hlt h4
    refine ⟨?_, h5⟩
    rw [World.cell?_of_block (w := w) (a := ⟨b, off + i * sz + j, none⟩) h6]
    exact h3
theorem RD.one {w : World} {F : Nat → Prop} {d : DV} {x : Value} (h : RD w F d x) : x.oneCell' = true := by
  cases h with
  | v x h => exact h
  | lst => rfl
inductive RV (w : World) (F : Nat → Prop) (β : Beta) : DV → Value → Prop
  | data {d : DV} {x : Value} (h : RD w F d x) : RV w F β d x
  | lref (sz : Nat) (es : List (List DV)) (i off : Nat) (b o cap : Nat)
      (h : RD w F (.lst sz es) (.slice (some ⟨b, o, none⟩) es.length cap)) (hi : i < es.length) :
      RV w F β (.lref sz es i off) (.pointer (some ⟨b, o + i * sz + off, none⟩))
  | ref (id off b c : Nat) (h : β id = some (some (b, c))) : RV w F β (.ref id off) (.pointer (some ⟨b, off, none⟩))
  | arr (id len b c : Nat) (h : β id = some (some (b, c))) (hl : len ≤ c) : RV w F β (.arr id len) (.slice (some ⟨b, 0, none⟩) len c)
  | arrNil (id : Nat) (h : β id = some none) : RV w F β (.arr id 0) (.slice none 0 0)
  | sub (id off len : Nat) (a : Option Addr) (n : Nat) (h : 0 < len → ∃ b c, β id = some (some (b, c)) ∧ a = some ⟨b, off, none⟩) (hn : a = none → n = 0) (hl : len ≤ n) : RV w F β (.sub id off len) (.slice a len n)
  | agg (ds : List DV) (xs : List Value) (hl : ds.length = xs.length)
      (h : ∀ (i : Nat) d x, ds[i]? = some d → xs[i]? = some x → RV w F β d x) : RV w F β (.agg ds) (.agg xs.toArray)
  | tup (ds : List DV) (xs : List Value) (hl : ds.length = xs.length)
      (h : ∀ (i : Nat) d x, ds[i]? = some d → xs[i]? = some x → RV w F β d x) : RV w F β (.tup ds) (.tuple xs.toArray)
  | clo (fn : Fn) (ds es : List DV) (xs ys : List Value) (hl : ds.length = xs.length) (hl' : es.length = ys.length)
      (h : ∀ (i : Nat) d x, ds[i]? = some d → xs[i]? = some x → RV w F β d x)
      (h' : ∀ (i : Nat) d x, es[i]? = some d → ys[i]? = some x → RV w F β d x) : RV w F β (.clo fn ds es) (.func fn xs.toArray ys.toArray)
  | ifc (t : TypeId) (d : DV) (x : Value) (h : RV w F β d x) : RV w F β (.ifc t d) (.iface t x)
  | mp (es : Array MapEntry) (b clk : Nat) (h : w.heap[b]? = some (.map es clk)) (hF : F b) : RV w F β (.mp es) (.map (some b))
  | mo (id b c : Nat) (h : β id = some (some (b, c))) : RV w F β (.mo id) (.map (some b))
  | whn (b : Bool) (d : DV) (x : Value) (h : b = true → RV w F β d x) (h0 : b = false → x = undef) : RV w F β (.when b d) x
  | dead (x : Value) : RV w F β .dead x
theorem RV.mono {w w' : World} {F F' : Nat → Prop} {β β' : Beta} {d : DV} {x : Value} (h : RV w F β d x)
    (hβ : ∀ i p, β i = some p → β' i = some p)
    (hw : ∀ b, b < w.heap.size → F b → F' b ∧ w'.heap[b]? = w.heap[b]?) : RV w' F' β' d x := by
  induction h with
  | data h => exact .data (h.mono hw)
  | lref sz es i off b o cap h hi => exact .lref sz es i off b o cap (h.mono hw) hi
  | ref id off b c h => exact .ref id off b c (hβ _ _ h)
  | arr id len b c h hl => exact .arr id len b c (hβ _ _ h) hl
  | arrNil id h => exact .arrNil id (hβ _ _ h)
  | sub id off len a n h hn hl => exact .sub id off len a n (fun h0 => (by obtain ⟨b, c, h1, h2⟩ := h h0; exact ⟨b, c, hβ _ _ h1, h2⟩)) hn hl
  | agg ds xs hl h ih => exact .agg ds xs hl ih
  | tup ds xs hl h ih => exact .tup ds xs hl ih
  | clo fn ds es xs ys hl hl' h h' ih ih' => exact .clo fn ds es xs ys hl hl' ih ih'
  | ifc t d x h ih => exact .ifc t d x ih
  | mp es b clk h hF =>
    obtain ⟨h1, h2⟩ := hw b (Array.getElem?_eq_some_iff.1 h).1 hF
    exact .mp es b clk (h2.trans h) h1
  | mo id b c h => exact .mo id b c (hβ _ _ h)
  | whn b d x h h0 ih => exact .whn b d x ih h0
  | dead x => exact .dead x
def Un (w0 : World) (s : Sto) (β : Beta) (b : Nat) : Prop :=
  b < w0.heap.size ∨ (w0.heap.size ≤ b ∧ ∀ i c, (s.ob i).isSome = true → β i ≠ some (some (b, c)))
def Fr (w0 : World) (F0 : Nat → Prop) (s : Sto) (β : Beta) (b : Nat) : Prop := F0 b ∧ Un w0 s β b
def MAPT : TypeId := 4294967295
def natOf : Value → Nat
  | .int _ n => n.toNat
  | _ => 0
def entsOf : List Value → List MapEntry
  | k :: v :: b :: r => ⟨k, v, natOf b⟩ :: entsOf r
  | _ => []
def mapOf : List Value → Obj
  | c :: r => .map (entsOf r).toArray (natOf c)
  | [] => .map #[] 0
def blkM (cur : Array Value) (e : TypeId) : List Value → Obj
  | .agg xs :: _ => mapOf xs.toList
  | _ => .cells cur e (0, 0)
def blk (cur : Array Value) (e : TypeId) : Obj := bif Nat.beq e MAPT then blkM cur e cur.toList else .cells cur e (0, 0)
theorem blk_cells {e : TypeId} (h : Nat.beq e MAPT = false) (cur : Array Value) : blk cur e = .cells cur e (0, 0) := by unfold blk; rw [h]; rfl
theorem mapOf_is (l : List Value) : ∃ es clk, mapOf l = .map es clk := by
  unfold mapOf
  split
  · exact ⟨_, _, rfl⟩
  · exact ⟨_, _, rfl⟩
theorem blk_is (cur : Array Value) (e : TypeId) : blk cur e = .cells cur e (0, 0) ∨ ∃ es clk, blk cur e = .map es clk := by
  unfold blk
  cases Nat.beq e MAPT with
  | true =>
    unfold blkM
    simp only [cond_true]
    split
    · exact .inr (mapOf_is _)
    · exact .inl rfl
  | false => exact .inl rfl
theorem blk_one {cur : Array Value} {y : Value} (hy : cur[0]? = some y) (h1 : y.oneCell' = true) (e : TypeId) : blk cur e = .cells cur e (0, 0) := by
  unfold blk
  cases Nat.beq e MAPT with
  | true =>
    unfold blkM
    simp only [cond_true]
    split
    · rename_i xs r hx
      have hy2 : cur.toList[0]? = some y := by simpa using hy
      rw [hx] at hy2
      cases hy2; cases h1
    · rfl
  | false => rfl
def cellsO (e : TypeId) (K : Prop) : Prop := bif Nat.beq e MAPT then False else K
theorem cellsO_is {e : TypeId} {K : Prop} (h : cellsO e K) : Nat.beq e MAPT = false ∧ K := by
  unfold cellsO at h
  cases hb : Nat.beq e MAPT with
  | true => rw [hb] at h; exact h.elim
  | false => rw [hb] at h; exact ⟨rfl, h⟩
def ORep (w0 w : World) (F : Nat → Prop) (β : Beta) (i : Nat) (o : DObj) : Prop :=
  (β i = some none ∧ o.cells = []) ∨
  ∃ b c cur, β i = some (some (b, c)) ∧ w0.heap.size ≤ b ∧ w.heap[b]? = some (blk cur o.elem) ∧ cur.size = c * o.sz ∧ c ≤ maxLen ∧
    o.cells.length ≤ cur.size ∧ ∀ (j : Nat) d, o.cells[j]? = some d → ∃ x, cur[j]? = some x ∧ RV w F β d x
structure GlobS where
  ok : World → Prop
  mono : ∀ {w0 w : World}, RowKit.Below w0.heap.size w0 w → ok w0 → ok w
  dr : Bool
def GlobS.none : GlobS := ⟨fun _ => True, fun _ h => h, false⟩
def Drs [Inhabited GlobS] : Bool := (default : GlobS).dr
structure BelowD [Inhabited GlobS] (B : Nat) (w w' : World) : Prop where
  os : w'.os = w.os
  tape : w'.tape = w.tape
  output : w'.output = w.output
  size : w.heap.size ≤ w'.heap.size
  block : ∀ k, k < B → w'.heap[k]? = w.heap[k]?
  drawn : Drs = true → w.drawn ≤ w'.drawn
section
variable [Inhabited GlobS]
theorem BelowD.kit {B : Nat} {w w' : World} (h : BelowD B w w') : RowKit.Below B w w' := ⟨h.os, h.tape, h.output, h.size, h.block⟩
theorem BelowD.of {B : Nat} {w w' : World} (h : RowKit.Below B w w') (hd : Drs = true → w.drawn ≤ w'.drawn) : BelowD B w w' := ⟨h.os, h.tape, h.output, h.size, h.block, hd⟩
theorem BelowD.refl (B : Nat) (w : World) : BelowD B w w := ⟨rfl, rfl, rfl, Nat.le_refl _, fun _ _ => rfl, fun _ => Nat.le_refl _⟩
theorem BelowD.trans {B : Nat} {a b c : World} (h : BelowD B a b) (k : BelowD B b c) : BelowD B a c := .of (h.kit.trans k.kit) fun e => Nat.le_trans (h.drawn e) (k.drawn e)
theorem BelowD.mono {B B' : Nat} {w w' : World} (h : BelowD B w w') (hB : B' ≤ B) : BelowD B' w w' := .of (h.kit.mono hB) h.drawn
theorem BelowD.alloc {B : Nat} {a w : World} (h : BelowD B a w) (hB : B ≤ w.heap.size) (o : Obj) : BelowD B a (w.alloc o) := .of (h.kit.alloc hB o) h.drawn
theorem BelowD.setCell {B : Nat} {a w : World} (h : BelowD B a w) {p : Addr} (hp : B ≤ p.block) (u : Value) : BelowD B a (w.setCell p u) := .of (h.kit.setCell hp u) h.drawn
theorem BelowD.frame {W w' : World} (h : BelowD W.heap.size W w') (may : MemPlace → Prop) : W.keptBut w' may := h.kit.frame may
end
def Gok [Inhabited GlobS] (w : World) : Prop := (default : GlobS).ok w
theorem Gok.mono [Inhabited GlobS] {w0 w : World} (hb : BelowD w0.heap.size w0 w) (h : Gok w0) : Gok w := GlobS.mono _ hb.kit h
structure SRel [Inhabited GlobS] (w0 : World) (F0 : Nat → Prop) (s : Sto) (β : Beta) (w : World) : Prop where
  below : BelowD w0.heap.size w0 w
  obs : ∀ i o, s.ob i = some o → ORep w0 w (Fr w0 F0 s β) β i o
  inj : ∀ i j b c c', (s.ob i).isSome = true → (s.ob j).isSome = true → β i = some (some (b, c)) → β j = some (some (b, c')) → i = j
  nx : ∀ i, s.nx ≤ i → β i = none ∧ s.ob i = none
  up : ∀ b, w.heap.size ≤ b → F0 b
  own : ∀ i b c, (s.ob i).isSome = true → β i = some (some (b, c)) → F0 b
  gl : Gok w0
theorem SRel.gok [Inhabited GlobS] {w0 : World} {F0 : Nat → Prop} {s : Sto} {β : Beta} {w : World} (h : SRel w0 F0 s β w) : Gok w := h.gl.mono h.below
structure Ext (n : Nat) (w0 : World) (X : Nat → Prop) (s : Sto) (β : Beta) (w : World) (s' : Sto) (β' : Beta) (w' : World) : Prop where
  grow : ∀ i, i < n → ∀ p, β i = some p → β' i = some p
  size : w.heap.size ≤ w'.heap.size
  fr : ∀ b, b < w.heap.size → ¬ X b → Un w0 s β b → Un w0 s' β' b ∧ w'.heap[b]? = w.heap[b]?
def nX : Nat → Prop := fun _ => False
theorem Ext.refl {n : Nat} {w0 : World} {X : Nat → Prop} {s : Sto} {β : Beta} {w : World} : Ext n w0 X s β w s β w :=
  ⟨fun _ _ _ h => h, Nat.le_refl _, fun _ _ _ h => ⟨h, rfl⟩⟩
theorem Ext.trans {n : Nat} {w0 : World} {X : Nat → Prop} {s s1 s2 : Sto} {β β1 β2 : Beta} {w w1 w2 : World}
    (h : Ext n w0 X s β w s1 β1 w1) (k : Ext n w0 X s1 β1 w1 s2 β2 w2) : Ext n w0 X s β w s2 β2 w2 :=
  ⟨fun i hi p hp => k.grow i hi p (h.grow i hi p hp), Nat.le_trans h.size k.size, fun b hb hx hF => by
    obtain ⟨h1, h2⟩ := h.fr b hb hx hF
    obtain ⟨h3, h4⟩ := k.fr b (Nat.lt_of_lt_of_le hb h.size) hx h1
    exact ⟨h3, h4.trans h2⟩⟩
theorem Ext.mono {n m : Nat} {w0 : World} {X : Nat → Prop} {s s' : Sto} {β β' : Beta} {w w' : World}
    (h : Ext n w0 X s β w s' β' w') (hm : m ≤ n) : Ext m w0 X s β w s' β' w' :=
  ⟨fun i hi p hp => h.grow i (by omega) p hp, h.size, h.fr⟩
theorem Ext.toX {n : Nat} {w0 : World} {X : Nat → Prop} {s s' : Sto} {β β' : Beta} {w w' : World}
    (h : Ext n w0 nX s β w s' β' w') : Ext n w0 X s β w s' β' w' := ⟨h.grow, h.size, fun b hb _ hu => h.fr b hb (fun h => h) hu⟩
theorem Ext.fr' {n : Nat} {w0 : World} {X F0 : Nat → Prop} {s s' : Sto} {β β' : Beta} {w w' : World} (hX : ∀ b, F0 b → ¬ X b) (h : Ext n w0 X s β w s' β' w') :
    ∀ b, b < w.heap.size → Fr w0 F0 s β b → Fr w0 F0 s' β' b ∧ w'.heap[b]? = w.heap[b]? := fun b hb hF => by
  obtain ⟨h1, h2⟩ := h.fr b hb (hX b hF.1) hF.2
  exact ⟨⟨hF.1, h1⟩, h2⟩
theorem RV.extX [Inhabited GlobS] {w0 : World} {X F0 : Nat → Prop} {s s' : Sto} {β β' : Beta} {w w' : World} (hs : SRel w0 F0 s β w) (hX : ∀ b, F0 b → ¬ X b)
    {n : Nat} (hn : s.nx ≤ n) (h : Ext n w0 X s β w s' β' w') {d : DV} {x : Value} (hr : RV w (Fr w0 F0 s β) β d x) : RV w' (Fr w0 F0 s' β') β' d x := by
  refine hr.mono (fun i p hp => h.grow i ?_ p hp) (h.fr' hX)
  rcases Nat.lt_or_ge i s.nx with hlt | hge
  · omega
  · rw [(hs.nx i hge).1] at hp; cases hp
theorem RV.ext [Inhabited GlobS] {w0 : World} {F0 : Nat → Prop} {s s' : Sto} {β β' : Beta} {w w' : World} (hs : SRel w0 F0 s β w)
    {n : Nat} (hn : s.nx ≤ n) (h : Ext n w0 nX s β w s' β' w') {d : DV} {x : Value} (hr : RV w (Fr w0 F0 s β) β d x) : RV w' (Fr w0 F0 s' β') β' d x :=
  RV.extX hs (fun _ _ h => h) hn h hr
theorem SRel.below' [Inhabited GlobS] {w0 : World} {F0 : Nat → Prop} {s : Sto} {β : Beta} {w w' : World} (h : SRel w0 F0 s β w) (hb : BelowD w.heap.size w w') :
    SRel w0 F0 s β w' ∧ ∀ n, Ext n w0 nX s β w s β w' := by
  have hext : ∀ n, Ext n w0 nX s β w s β w' := fun n => ⟨fun _ _ _ h => h, hb.size, fun b hlt _ hF => ⟨hF, hb.block b hlt⟩⟩
  refine ⟨⟨h.below.trans (hb.mono h.below.size), fun i o ho => ?_, h.inj, h.nx, fun b hb' => h.up b (Nat.le_trans hb.size hb'), h.own, h.gl⟩, hext⟩
  rcases h.obs i o ho with h1 | ⟨b, c, cur, h1, h2, h3, h4, h5, h6, h7⟩
  · exact .inl h1
  · refine .inr ⟨b, c, cur, h1, h2, ?_, h4, h5, h6, fun j d hj => ?_⟩
    · rw [hb.block b (Array.getElem?_eq_some_iff.1 h3).1]; exact h3
    · obtain ⟨x, hx, hr⟩ := h7 j d hj
      exact ⟨x, hx, RV.ext h (Nat.le_refl _) (hext _) hr⟩
def upd {α : Type} (f : Nat → α) (i : Nat) (x : α) : Nat → α := fun j => bif Nat.beq j i then x else f j
@[simp] theorem upd_same {α : Type} (f : Nat → α) (i : Nat) (x : α) : upd f i x i = x := by
  have h : Nat.beq i i = true := Nat.beq_refl i
  unfold upd; rw [h]; rfl
theorem upd_ne {α : Type} (f : Nat → α) (i : Nat) (x : α) {j : Nat} (h : j ≠ i) : upd f i x j = f j := by
  have h : Nat.beq j i = false := by
    cases e : Nat.beq j i with
    | true => exact absurd (Nat.eq_of_beq_eq_true e) h
    | false => rfl
  unfold upd; rw [h]; rfl
theorem SRel.alloc [Inhabited GlobS] {w0 : World} {F0 : Nat → Prop} {s : Sto} {β : Beta} {w : World} (h : SRel w0 F0 s β w) (id : Nat) (hid : β id = none) (hob : s.ob id = none) (nx' : Nat) (hnx : s.nx ≤ nx') (hlt : id < nx')
    (o : DObj) (cur : Array Value) (c : Nat) (hcs : cur.size = c * o.sz) (hcm : c ≤ maxLen) (hlen : o.cells.length ≤ cur.size)
    (hcur : ∀ (j : Nat) d, o.cells[j]? = some d → ∃ x, cur[j]? = some x ∧ RV w (Fr w0 F0 s β) β d x) :
    SRel w0 F0 ⟨upd s.ob id (some o), nx'⟩ (upd β id (some (some (w.heap.size, c)))) (w.alloc (blk cur o.elem)) ∧
    ∀ n, Ext n w0 nX s β w ⟨upd s.ob id (some o), nx'⟩ (upd β id (some (some (w.heap.size, c)))) (w.alloc (blk cur o.elem)) := by
  have hgrow : ∀ i p, β i = some p → upd β id (some (some (w.heap.size, c))) i = some p := fun i p hp => by
    by_cases e : i = id
    · subst e; rw [hid] at hp; cases hp
    · rw [upd_ne _ _ _ e]; exact hp
  have hext : ∀ n, Ext n w0 nX s β w ⟨upd s.ob id (some o), nx'⟩ (upd β id (some (some (w.heap.size, c)))) (w.alloc (blk cur o.elem)) := fun n =>
    ⟨fun i _ p hp => hgrow i p hp, by simp, fun b hb _ hF => by
      refine ⟨?_, heap_alloc_old w _ hb⟩
      rcases hF with hF | ⟨h1, h2⟩
      · exact .inl hF
      · refine .inr ⟨h1, fun i c' hi => ?_⟩
        by_cases e : i = id
        · subst e; simp; intro e; omega
        · simp only [upd_ne _ _ _ e] at hi ⊢; exact h2 i c' hi⟩
  refine ⟨⟨h.below.alloc h.below.size _, fun i oi hi => ?_, fun i j b c1 c2 hi hj hbi hbj => ?_, fun i hi => ?_, fun b hb => h.up b (by simp at hb; omega), fun i b c' hi hb => ?_, h.gl⟩, hext⟩
  · by_cases e : i = id
    · subst e
      simp only [upd_same, Option.some.injEq] at hi
      subst hi
      refine .inr ⟨w.heap.size, c, cur, by simp, h.below.size, heap_alloc_new w _, hcs, hcm, hlen, fun j d hj => ?_⟩
      obtain ⟨x, hx, hr⟩ := hcur j d hj
      exact ⟨x, hx, RV.ext h (Nat.le_refl _) (hext _) hr⟩
    · simp only [upd_ne _ _ _ e] at hi
      rcases h.obs i oi hi with h1 | ⟨b, c', cur', h1, h2, h3, h4, h5, h6, h7⟩
      · exact .inl ⟨hgrow _ _ h1.1, h1.2⟩
      · refine .inr ⟨b, c', cur', hgrow _ _ h1, h2, ?_, h4, h5, h6, fun j d hj => ?_⟩
        · rw [heap_alloc_old w _ (Array.getElem?_eq_some_iff.1 h3).1]; exact h3
        · obtain ⟨x, hx, hr⟩ := h7 j d hj
          exact ⟨x, hx, RV.ext h (Nat.le_refl _) (hext _) hr⟩
  · have hblk : ∀ i b c', (s.ob i).isSome = true → β i = some (some (b, c')) → b < w.heap.size := fun i b c' hi hb => by
      obtain ⟨oi, hoi⟩ := Option.isSome_iff_exists.1 hi
      rcases h.obs i oi hoi with h1 | ⟨b', c'', cur', h1, h2, h3, _⟩
      · rw [h1.1] at hb; cases hb
      · rw [h1] at hb; simp only [Option.some.injEq, Prod.mk.injEq] at hb
        rw [← hb.1]; exact (Array.getElem?_eq_some_iff.1 h3).1
    by_cases e : i = id
    · by_cases e' : j = id
      · rw [e, e']
      · subst e
        simp only [upd_same, upd_ne _ _ _ e', Option.some.injEq, Prod.mk.injEq] at hi hj hbi hbj
        have := hblk j b c2 hj hbj
        omega
    · by_cases e' : j = id
      · subst e'
        simp only [upd_same, upd_ne _ _ _ e, Option.some.injEq, Prod.mk.injEq] at hi hj hbi hbj
        have := hblk i b c1 hi hbi
        omega
      · simp only [upd_ne _ _ _ e, upd_ne _ _ _ e'] at hi hj hbi hbj
        exact h.inj i j b c1 c2 hi hj hbi hbj
  · have hne : i ≠ id := by have : nx' ≤ i := hi; omega
    have := h.nx i (Nat.le_trans hnx hi)
    simp only [upd_ne _ _ _ hne]; exact this
  · by_cases e : i = id
    · subst e
      simp only [upd_same, Option.some.injEq, Prod.mk.injEq] at hb
      exact h.up b (by omega)
    · simp only [upd_ne _ _ _ e] at hi hb
      exact h.own i b c' hi hb
theorem SRel.store1 [Inhabited GlobS] {w0 : World} {F0 : Nat → Prop} {s : Sto} {β : Beta} {w : World} (h : SRel w0 F0 s β w) (id : Nat) (o : DObj) (hob : s.ob id = some o) (hm : Nat.beq o.elem MAPT = false)
    (b c : Nat) (hb : β id = some (some (b, c))) (off : Nat) (hoff : off < o.cells.length) (d : DV) (x : Value) (hx : RV w (Fr w0 F0 s β) β d x) :
    (w.cell? ⟨b, off, none⟩).isSome = true ∧ w.frozen? ⟨b, off, none⟩ = false ∧
    SRel w0 F0 ⟨upd s.ob id (some { o with cells := o.cells.set off d }), s.nx⟩ β (w.setCell ⟨b, off, none⟩ x) ∧
    ∀ n, Ext n w0 nX s β w ⟨upd s.ob id (some { o with cells := o.cells.set off d }), s.nx⟩ β (w.setCell ⟨b, off, none⟩ x) := by
  rcases h.obs id o hob with h2 | ⟨b', c', cur, g1, g2, g3, g4, g5, g6, g7⟩
  · rw [h2.1] at hb; cases hb
  rw [g1] at hb
  simp only [Option.some.injEq, Prod.mk.injEq] at hb
  obtain ⟨rfl, rfl⟩ := hb
  rw [blk_cells hm] at g3
  have hblt : b' < w.heap.size := (Array.getElem?_eq_some_iff.1 g3).1
  have hsome : ∀ i, ((upd s.ob id (some { o with cells := o.cells.set off d })) i).isSome = (s.ob i).isSome := fun i => by
    by_cases e : i = id
    · subst e; simp [hob]
    · rw [upd_ne _ _ _ e]
  have hfr : ∀ b2, Un w0 ⟨upd s.ob id (some { o with cells := o.cells.set off d }), s.nx⟩ β b2 ↔ Un w0 s β b2 := fun b2 => by
    simp only [Un, hsome]
  have hnF : ¬ Un w0 s β b' := fun hF => by
    rcases hF with hF | hF
    · omega
    · exact hF.2 id c' (by simp [hob]) g1
  have hext : ∀ n, Ext n w0 nX s β w ⟨upd s.ob id (some { o with cells := o.cells.set off d }), s.nx⟩ β (w.setCell ⟨b', off, none⟩ x) := fun n =>
    ⟨fun _ _ _ hp => hp, by simp [World.setCell], fun b2 hb2 _ hF => ⟨(hfr b2).2 hF, RowKit.Below.heap_setCell _ _ _ _ (fun e => hnF (by have e' : b2 = b' := e; rw [← e']; exact hF))⟩⟩
  refine ⟨?_, ?_, ⟨h.below.setCell g2 _, fun i oi hi => ?_, fun i j b2 c1 c2 hi hj => h.inj i j b2 c1 c2 (by rw [← hsome]; exact hi) (by rw [← hsome]; exact hj), fun i hi => ?_, fun b hb => h.up b (by simpa [World.setCell] using hb), fun i b2 c2 hi hb2 => h.own i b2 c2 (by rw [← hsome]; exact hi) hb2, h.gl⟩, hext⟩
  · simp only [World.cell?, g3, Option.isSome_none, Bool.false_eq_true, if_false]
    simp only [Option.isSome_iff_exists]
    exact ⟨_, Array.getElem?_eq_getElem (by omega)⟩
  · simp [World.frozen?, g3]
  · by_cases e : i = id
    · subst e
      simp only [upd_same, Option.some.injEq] at hi
      subst hi
      refine .inr ⟨b', c', cur.setIfInBounds off x, g1, g2, ?_, by simpa using g4, g5, by simpa using g6, fun j dj hj => ?_⟩
      · show _ = some (blk _ o.elem)
        rw [blk_cells hm]
        simp only [World.setCell, Array.getElem?_modify]; simp [g3]
      · by_cases ej : off = j
        · subst ej
          simp only [List.getElem?_set_self hoff, Option.some.injEq] at hj
          subst hj
          exact ⟨x, by rw [Array.getElem?_setIfInBounds_self_of_lt (by omega)], RV.ext h (Nat.le_refl _) (hext _) hx⟩
        · simp only [List.getElem?_set_ne ej] at hj
          obtain ⟨y, hy, hr⟩ := g7 j dj hj
          exact ⟨y, by rw [Array.getElem?_setIfInBounds_ne ej]; exact hy, RV.ext h (Nat.le_refl _) (hext _) hr⟩
    · simp only [upd_ne _ _ _ e] at hi
      rcases h.obs i oi hi with k1 | ⟨b2, c2, cur2, k1, k2, k3, k4, k5, k6, k7⟩
      · exact .inl k1
      · refine .inr ⟨b2, c2, cur2, k1, k2, ?_, k4, k5, k6, fun j dj hj => ?_⟩
        · rw [RowKit.Below.heap_setCell _ _ _ _ (fun e2 => e (h.inj i id b2 c2 c' (by simp [hi]) (by simp [hob]) k1 (by have e3 : b2 = b' := e2; rw [g1, e3])))]
          exact k3
        · obtain ⟨y, hy, hr⟩ := k7 j dj hj
          exact ⟨y, hy, RV.ext h (Nat.le_refl _) (hext _) hr⟩
  · have hne : i ≠ id := fun e => by subst e; have := (h.nx i hi).2; rw [hob] at this; cases this
    rw [show (Sto.mk (upd s.ob id (some { o with cells := o.cells.set off d })) s.nx).ob i = s.ob i from upd_ne _ _ _ hne]
    exact h.nx i hi
theorem SRel.drop [Inhabited GlobS] {w0 : World} {F0 : Nat → Prop} {s : Sto} {β : Beta} {w : World} (h : SRel w0 F0 s β w) (id : Nat) :
    SRel w0 F0 ⟨upd s.ob id none, s.nx⟩ β w ∧ ∀ n, Ext n w0 nX s β w ⟨upd s.ob id none, s.nx⟩ β w := by
  have hsome : ∀ i, ((upd s.ob id none) i).isSome = true → (s.ob i).isSome = true := fun i => by
    by_cases e : i = id
    · subst e; simp
    · rw [upd_ne _ _ _ e]; exact fun h => h
  have hext : ∀ n, Ext n w0 nX s β w ⟨upd s.ob id none, s.nx⟩ β w := fun n =>
    ⟨fun _ _ _ hp => hp, Nat.le_refl _, fun b hb _ hF => ⟨by
      rcases hF with hF | hF
      · exact .inl hF
      · exact .inr ⟨hF.1, fun i c hi => hF.2 i c (hsome i hi)⟩, rfl⟩⟩
  refine ⟨⟨h.below, fun i oi hi => ?_, fun i j b c1 c2 hi hj => h.inj i j b c1 c2 (hsome i hi) (hsome j hj), fun i hi => ?_, h.up, fun i b c hi hb => h.own i b c (hsome i hi) hb, h.gl⟩, hext⟩
  · have hi' : s.ob i = some oi := by
      by_cases e : i = id
      · subst e; simp at hi
      · simpa [upd_ne _ _ _ e] using hi
    rcases h.obs i oi hi' with k1 | ⟨b2, c2, cur2, k1, k2, k3, k4, k5, k6, k7⟩
    · exact .inl k1
    · exact .inr ⟨b2, c2, cur2, k1, k2, k3, k4, k5, k6, fun j dj hj => by
        obtain ⟨y, hy, hr⟩ := k7 j dj hj
        exact ⟨y, hy, RV.ext h (Nat.le_refl _) (hext _) hr⟩⟩
  · have := h.nx i hi
    refine ⟨this.1, ?_⟩
    by_cases e : i = id
    · subst e; simp
    · rw [show (Sto.mk (upd s.ob id none) s.nx).ob i = s.ob i from upd_ne _ _ _ e]; exact this.2
end Go.Dl

namespace Go.Dl
open Go Go.RowKit
def evg (g : Bool) (d : DV) (K : DV → Prop) : Prop :=
  match d with
  | .when t d => (g = true → t = true) ∧ K d
  | d => K d
theorem evg_sound {g : Bool} {K : DV → Prop} (d : DV) (h : evg g d K) : ∃ d', K d' ∧ (g = true → ∀ w F β x, RV w F β d x → RV w F β d' x) := by
  unfold evg at h
  split at h
  · obtain ⟨h1, h2⟩ := h
    refine ⟨_, h2, fun hg w F β x hx => ?_⟩
    cases hx with
    | data h => cases h
    | whn _ _ _ h h0 => exact h (h1 hg)
  · exact ⟨_, h, fun _ _ _ _ _ h => h⟩
def str0 : DV → DV
  | .when _ d => d
  | d => d
theorem evg_sound2 {g : Bool} {K : DV → Prop} (d : DV) (h : evg g d K) : K (str0 d) ∧ (g = true → ∀ w F β x, RV w F β d x → RV w F β (str0 d) x) := by
  unfold evg at h
  split at h
  · obtain ⟨h1, h2⟩ := h
    refine ⟨h2, fun hg w F β x hx => ?_⟩
    cases hx with
    | data h => cases h
    | whn _ _ _ h h0 => exact h (h1 hg)
  · rename_i hn
    have e : str0 d = d := by
      cases d <;> first | rfl | exact absurd rfl (hn _ _)
    rw [e]
    exact ⟨h, fun _ _ _ _ _ h => h⟩
def aggSz (P : Program) (t : TypeId) : Option Nat :=
  match P.underlying t with
  | some (.struct _) | some (.array _ _) => some (P.cellsOf t)
  | _ => none
def fldOff (P : Program) (t : TypeId) (f : Nat) : Option Nat :=
  match P.underlying t with
  | some (.struct fs) => match fs[f]? with
    | some x => if P.cellsOf x.type = 0 then none else some x.offset
    | none => none
  | _ => none
def isStr (P : Program) (t : TypeId) : Bool := match P.underlying t with | some .string => true | _ => false
def intK (P : Program) (t : TypeId) : Option IntKind := match P.underlying t with | some (.int k) => some k | _ => none
def isBoolT (P : Program) (t : TypeId) : Bool := match P.underlying t with | some .bool => true | _ => false
def isKnown (P : Program) (t : TypeId) : Bool := (P.underlying t).isSome
def byteAt (s : ByteArray) (n : Nat) : Int := ((s.data.toList.getD n 0).toNat : Int)
def ObsF (w0 : World) (F : Nat → Prop) (s : Sto) (β : Beta) (w : World) : Prop := ∀ i o, s.ob i = some o → ORep w0 w F β i o
def Kp (F : Nat → Prop) (s : Sto) (β : Beta) (w w' : World) : Prop :=
  ∀ b, b < w.heap.size → (F b ∨ ∃ i o c, s.ob i = some o ∧ β i = some (some (b, c))) → w'.heap[b]? = w.heap[b]?
theorem Kp.of_below [Inhabited GlobS] {F : Nat → Prop} {s : Sto} {β : Beta} {w w' : World} (h : BelowD w.heap.size w w') : Kp F s β w w' := fun b hb _ => h.block b hb
def QSem (P : Program) (s : Sto) (op : Op) (ρ : Operand → DV) (d : DV) : Prop :=
  ∀ (w0 : World) (F0 : Nat → Prop) (β : Beta) (w : World) (a : Act), ObsF w0 F0 s β w → (∀ x, RV w F0 β (ρ x) (a.eval x)) →
    ∃ v, RV w F0 β d v ∧ ∀ (o : Oper) w', o.op = op → Kp F0 s β w w' → (execOp a.eval o).run P w' = .ok (.value v) w'
def dbin (op : BinOp) (g : Bool) : DV → DV → (DV → Prop) → Prop
  | .v (.int k a), .v (.int k' b), K =>
    match op with
    | .add => (g = true → k = k') ∧ K (.v (.int k (k.wrap (a + b))))
    | .sub => (g = true → k = k') ∧ K (.v (.int k (k.wrap (a - b))))
    | .mul => (g = true → k = k') ∧ K (.v (.int k (k.wrap (a * b))))
    | .quo => (g = true → k = k' ∧ b ≠ 0) ∧ K (.v (.int k (k.wrap (a.tdiv b))))
    | .rem => (g = true → k = k' ∧ b ≠ 0) ∧ K (.v (.int k (a.tmod b)))
    | .eql => (g = true → k = k') ∧ K (.v (.bool (a == b)))
    | .neq => (g = true → k = k') ∧ K (.v (.bool (a != b)))
    | .lss => (g = true → k = k') ∧ K (.v (.bool (decide (a < b))))
    | .leq => (g = true → k = k') ∧ K (.v (.bool (decide (a ≤ b))))
    | .gtr => (g = true → k = k') ∧ K (.v (.bool (decide (b < a))))
    | .geq => (g = true → k = k') ∧ K (.v (.bool (decide (b ≤ a))))
    | .shl => (g = true → 0 ≤ b) ∧ K (.v (.int k (k.wrap (a * 2 ^ (min b.toNat k.bits)))))
    | .shr => (g = true → 0 ≤ b) ∧ K (.v (.int k (a.fdiv (2 ^ (min b.toNat k.bits)))))
    | .and => (g = true → k = k') ∧ K (.v (.int k (bits .and k a b)))
    | .or => (g = true → k = k') ∧ K (.v (.int k (bits .or k a b)))
    | .xor => (g = true → k = k') ∧ K (.v (.int k (bits .xor k a b)))
    | .andNot => (g = true → k = k') ∧ K (.v (.int k (bits .andNot k a b)))
  | .v (.string a), .v (.string b), K =>
    match op with
    | .add => (g = true → a.size + b.size ≤ 9223372036854775807) ∧ K (.v (.string (a ++ b)))
    | .eql => K (.v (.bool (a == b)))
    | .neq => K (.v (.bool (a != b)))
    | .lss => K (.v (.bool (Op.bytesLess a.toList b.toList)))
    | .leq => K (.v (.bool (Op.bytesLess a.toList b.toList || a == b)))
    | .gtr => K (.v (.bool (!(Op.bytesLess a.toList b.toList || a == b))))
    | .geq => K (.v (.bool (!(Op.bytesLess a.toList b.toList))))
    | _ => False
  | _, _, _ => False
theorem dbin_sound {P : Program} {op : BinOp} {t : TypeId} {g : Bool} {dx dy : DV} {K : DV → Prop} (h : dbin op g dx dy K) :
    ∃ d, K d ∧ (g = true → ∀ w F β (x y : Operand) vx vy, RV w F β dx vx → RV w F β dy vy → ∃ v, RV w F β d v ∧
      ∀ w', ((do eqGuard op t x y vx vy; binOp op t vx vy) : Sem Value).run P w' = .ok v w') := by
  have hv : ∀ {w : World} {F : Nat → Prop} {β : Beta} {u v : Value}, RV w F β (.v u) v → v = u := fun h => by
    cases h with
    | data h => cases h; rfl
  unfold dbin at h
  split at h
  · split at h
    all_goals first
      | exact h.elim
      | (obtain ⟨h1, h2⟩ := h
         refine ⟨_, h2, fun hg w F β x y vx vy hx hy => ⟨_, .data (.v _ rfl), fun w' => ?_⟩⟩
         rw [hv hx, hv hy]
         first
           | (obtain rfl := h1 hg; simp [go_sem, eqGuard, binOp, Op.intArith, Op.intCmp, bits, Op.intBits]; done)
           | (obtain ⟨rfl, h3⟩ := h1 hg; simp [go_sem, eqGuard, binOp, Op.intDiv, h3]; done)
           | (have h3 := h1 hg; simp [go_sem, eqGuard, binOp, Op.shift, Int.not_lt.2 h3]; done))
  · split at h
    all_goals first
      | exact h.elim
      | (obtain ⟨h1, h2⟩ := h
         refine ⟨_, h2, fun hg w F β x y vx vy hx hy => ⟨_, .data (.v _ rfl), fun w' => ?_⟩⟩
         rw [hv hx, hv hy]
         have h3 := h1 hg
         have h4 : ¬ ((9223372036854775807 : Int) < (_ : Int)) := Int.not_lt.2 (Int.ofNat_le.2 h3)
         simp only [Int.natCast_add] at h4
         simp [go_sem, binOp, Op.stringOp, h4]
         done)
      | (refine ⟨_, h, fun hg w F β x y vx vy hx hy => ⟨_, .data (.v _ rfl), fun w' => ?_⟩⟩
         rw [hv hx, hv hy]
         simp [go_sem, binOp, Op.stringOp, beq_toListBytes, bne]
         done)
  · exact h.elim
section
variable {w : World} {F : Nat → Prop} {β : Beta}
theorem rv_v {u x : Value} (h : RV w F β (.v u) x) : x = u := by
  cases h with
  | data h => cases h; rfl
theorem rv_ref {id off : Nat} {x : Value} (h : RV w F β (.ref id off) x) : ∃ b c, β id = some (some (b, c)) ∧ x = .pointer (some ⟨b, off, none⟩) := by
  cases h with
  | data h => cases h
  | ref _ _ b c h => exact ⟨b, c, h, rfl⟩
theorem rv_mo {id : Nat} {x : Value} (h : RV w F β (.mo id) x) : ∃ b c, β id = some (some (b, c)) ∧ x = .map (some b) := by
  cases h with
  | data h => cases h
  | mo _ b c h => exact ⟨b, c, h, rfl⟩
theorem rv_lref {sz : Nat} {es : List (List DV)} {i off : Nat} {x : Value} (h : RV w F β (.lref sz es i off) x) :
    ∃ b o cap, RD w F (.lst sz es) (.slice (some ⟨b, o, none⟩) es.length cap) ∧ i < es.length ∧ x = .pointer (some ⟨b, o + i * sz + off, none⟩) := by
  cases h with
  | data h => cases h
  | lref _ _ _ _ b o cap h hi => exact ⟨b, o, cap, h, hi, rfl⟩
theorem rv_lst {sz : Nat} {es : List (List DV)} {x : Value} (h : RV w F β (.lst sz es) x) :
    ∃ a cap, x = .slice a es.length cap ∧ RD w F (.lst sz es) (.slice a es.length cap) ∧ es.length ≤ cap ∧ cap ≤ maxLen ∧ (a = none → cap = 0) ∧ (es ≠ [] → ∃ b off, a = some ⟨b, off, none⟩) := by
  cases h with
  | data h =>
    have h' := h
    cases h with
    | lst sz es a b off cap g ha hn hc hm => exact ⟨a, cap, rfl, h', hc, hm, hn, fun he => ⟨b, off, ha he⟩⟩
theorem rv_arr {id len : Nat} {x : Value} (h : RV w F β (.arr id len) x) :
    (∃ b c, β id = some (some (b, c)) ∧ len ≤ c ∧ x = .slice (some ⟨b, 0, none⟩) len c) ∨ (β id = some none ∧ len = 0 ∧ x = .slice none 0 0) := by
  cases h with
  | data h => cases h
  | arr _ _ b c h hl => exact .inl ⟨b, c, h, hl, rfl⟩
  | arrNil _ h => exact .inr ⟨h, rfl, rfl⟩
theorem rv_sub {id off len : Nat} {x : Value} (h : RV w F β (.sub id off len) x) :
    ∃ a n, x = .slice a len n ∧ (0 < len → ∃ b c, β id = some (some (b, c)) ∧ a = some ⟨b, off, none⟩) ∧ (a = none → n = 0) ∧ len ≤ n := by
  cases h with
  | data h => cases h
  | sub _ _ _ a n h hn hl => exact ⟨a, n, rfl, h, hn, hl⟩
theorem rv_agg {ds : List DV} {x : Value} (h : RV w F β (.agg ds) x) :
    ∃ xs : List Value, x = .agg xs.toArray ∧ ds.length = xs.length ∧ ∀ (i : Nat) d y, ds[i]? = some d → xs[i]? = some y → RV w F β d y := by
  cases h with
  | data h => cases h
  | agg _ xs hl h => exact ⟨xs, rfl, hl, h⟩
theorem rv_tup {ds : List DV} {x : Value} (h : RV w F β (.tup ds) x) :
    ∃ xs : List Value, x = .tuple xs.toArray ∧ ds.length = xs.length ∧ ∀ (i : Nat) d y, ds[i]? = some d → xs[i]? = some y → RV w F β d y := by
  cases h with
  | data h => cases h
  | tup _ xs hl h => exact ⟨xs, rfl, hl, h⟩
theorem rv_clo {fn : Fn} {ds es : List DV} {x : Value} (h : RV w F β (.clo fn ds es) x) :
    ∃ xs ys : List Value, x = .func fn xs.toArray ys.toArray ∧ ds.length = xs.length ∧ es.length = ys.length ∧
      (∀ (i : Nat) d y, ds[i]? = some d → xs[i]? = some y → RV w F β d y) ∧ (∀ (i : Nat) d y, es[i]? = some d → ys[i]? = some y → RV w F β d y) := by
  cases h with
  | data h => cases h
  | clo _ _ _ xs ys hl hl' h h' => exact ⟨xs, ys, rfl, hl, hl', h, h'⟩
theorem rd_cells {sz : Nat} {es : List (List DV)} {b o cap : Nat} (h : RD w F (.lst sz es) (.slice (some ⟨b, o, none⟩) es.length cap)) {i : Nat} {cs : List DV} (hi : es[i]? = some cs) :
    cs.length = sz ∧ ∃ xs : List Value, xs.length = cs.length ∧ ∀ (j : Nat) d x, cs[j]? = some d → xs[j]? = some x → w.cell? ⟨b, o + i * sz + j, none⟩ = some x ∧ F b ∧ RD w F d x := by
  cases h with
  | lst _ _ _ b' off' _ g ha hn hc hm hsz hcell hd =>
    have hne : es ≠ [] := fun e => by subst e; simp at hi
    have := ha hne
    simp only [Option.some.injEq, Addr.mk.injEq, and_true] at this
    obtain ⟨rfl, rfl⟩ := this
    refine ⟨hsz i cs hi, (List.range cs.length).map (g i), by simp, fun j d x h1 h2 => ?_⟩
    obtain ⟨h3, h4⟩ := hcell i cs j d hi h1
    have hj := (List.getElem?_eq_some_iff.1 h1).1
    simp [hj] at h2
    subst h2
    exact ⟨h3, h4, hd i cs j d hi h1⟩
end
def tyLay (P : Program) (t : TypeId) : Option (Option Nat) :=
  match P.underlying t, P.info? t with
  | some (.struct _), some i | some (.array _ _), some i => some (some i.size)
  | some _, some _ => some none
  | _, _ => none
noncomputable def forceL {α : Type} (l : List α) : (List α → Prop) → Prop :=
  List.rec (motive := fun _ => (List α → Prop) → Prop) (fun K => K []) (fun x _ next K => next fun xs => K (x :: xs)) l
theorem forceL_eq {α : Type} (l : List α) : ∀ (K : List α → Prop), forceL l K = K l := by
  induction l with
  | nil => intro K; rfl
  | cons x l ih => intro K; exact ih _
def dcell (g : Bool) (cells : List DV) (off : Nat) (K : DV → Prop) : Prop := ∃ d, (g = true → cells[off]? = some d) ∧ K d
theorem dcell_ok {g : Bool} {cells : List DV} {off : Nat} {K : DV → Prop} {d : DV} (h : cells[off]? = some d) (hK : K d) : dcell g cells off K := ⟨d, fun _ => h, hK⟩
theorem dcell_at {g : Bool} {cells : List DV} {off : Nat} {K : DV → Prop} (d : DV) (h : g = true → cells[off]? = some d) (hK : K d) : dcell g cells off K := ⟨d, h, hK⟩
noncomputable def dload (P : Program) (t : TypeId) (cells : List DV) (off : Nat) (g : Bool) (K : DV → Prop) : Prop :=
  match tyLay P t with
  | some (some n) => (g = true → off + n ≤ cells.length) ∧ forceL ((cells.drop off).take n) fun cs => K (.agg cs)
  | some none => dcell g cells off K
  | none => False
theorem run_loadVar_agg {P : Program} {t : TypeId} {n : Nat} (h : tyLay P t = some (some n)) (w : World) (a : Addr) (xs : List Value) (hl : xs.length = n)
    (hx : ∀ (j : Nat) x, xs[j]? = some x → w.cell? (a.add j) = some x) : (loadVar t a).run P w = .ok (.agg xs.toArray) w := by
  unfold tyLay at h
  subst hl
  split at h
  all_goals first
    | (rename_i i h1 h2
       simp only [Option.some.injEq] at h
       have hr := run_loadCells_list (P := P) w a xs hx
       simp [loadVar, isAgg, run_underlying h1, sizeOf, typeInfo, h2, h, hr]
       done)
    | simp at h
theorem run_loadVar_one {P : Program} {t : TypeId} (h : tyLay P t = some none) (w : World) (a : Addr) (x : Value) (hx : w.cell? a = some x) : (loadVar t a).run P w = .ok x w := by
  unfold tyLay at h
  split at h
  · simp at h
  · simp at h
  · rename_i d i h1 h2 h3 h4
    have : (isAgg t).run P w = .ok false w := by
      unfold isAgg
      simp only [Sem.run_bind, run_underlying h3, Result.andThen_ok]
      rfl
    simp [loadVar, this, hx]
  · simp at h
theorem dload_sound {P : Program} {t : TypeId} {cells : List DV} {off : Nat} {g : Bool} {K : DV → Prop} (h : dload P t cells off g K) :
    ∃ d, K d ∧ (g = true → ∀ (w : World) F β b o (xs : List Value), (∀ (j : Nat) dj, cells[j]? = some dj → ∃ x, xs[j]? = some x ∧ w.cell? ⟨b, o + j, none⟩ = some x ∧ RV w F β dj x) →
      ∃ v, RV w F β d v ∧ ∀ w', (cells ≠ [] → w'.heap[b]? = w.heap[b]?) → (loadVar t ⟨b, o + off, none⟩).run P w' = .ok v w') := by
  unfold dload at h
  split at h
  · rename_i n hn
    obtain ⟨h1, h2⟩ := h
    rw [forceL_eq] at h2
    refine ⟨_, h2, fun hg w F β b o xs hx => ?_⟩
    have hle := h1 hg
    have hxs : ∀ j, j < n → ∃ x, xs[off + j]? = some x ∧ w.cell? ⟨b, o + (off + j), none⟩ = some x ∧ RV w F β (cells[off + j]?.getD .dead) x := fun j hj => by
      have hj' : off + j < cells.length := by omega
      have := hx (off + j) cells[off + j] (List.getElem?_eq_getElem hj')
      simpa [List.getElem?_eq_getElem hj'] using this
    have hlen : n ≤ (xs.drop off).length := by
      rcases Nat.eq_zero_or_pos n with rfl | hpos
      · omega
      · obtain ⟨x, hx1, _⟩ := hxs (n - 1) (by omega)
        have := (List.getElem?_eq_some_iff.1 hx1).1
        simp; omega
    have hget : ∀ (j : Nat) x, ((xs.drop off).take n)[j]? = some x → j < n ∧ xs[off + j]? = some x := fun j x h => by
      rw [List.getElem?_take] at h
      split at h
      · exact ⟨by assumption, by simpa [List.getElem?_drop] using h⟩
      · cases h
    refine ⟨.agg ((xs.drop off).take n).toArray, .agg _ _ ?_ (fun j d x hd hx2 => ?_), fun w' hb => run_loadVar_agg hn w' _ _ (by simp at hlen ⊢; omega) (fun j x hj => ?_)⟩
    · simp at hlen ⊢; omega
    · obtain ⟨hj, h3⟩ := hget j x hx2
      obtain ⟨y, h4, _, h6⟩ := hxs j hj
      rw [h3] at h4
      cases h4
      have : cells[off + j]? = some d := by
        rw [List.getElem?_take] at hd
        simpa [hj, List.getElem?_drop] using hd
      simpa [this] using h6
    · obtain ⟨hj', h3⟩ := hget j x hj
      obtain ⟨y, h4, h5, _⟩ := hxs j hj'
      rw [h3] at h4
      cases h4
      have hne : cells ≠ [] := fun e => by subst e; simp at hle; omega
      rw [Addr.add_lit, Nat.add_assoc, World.cell?_of_block (w := w) (a := ⟨b, _, none⟩) (hb hne)]
      exact h5
  · rename_i hn
    obtain ⟨d, h1, h2⟩ := h
    refine ⟨d, h2, fun hg w F β b o xs hx => ?_⟩
    obtain ⟨x, _, h4, h5⟩ := hx off d (h1 hg)
    have hne : cells ≠ [] := fun e => by subst e; have := h1 hg; simp at this
    refine ⟨x, h5, fun w' hb => run_loadVar_one hn w' _ _ ?_⟩
    rw [World.cell?_of_block (w := w) (a := ⟨b, _, none⟩) (hb hne)]
    exact h4
  · exact h.elim
end Go.Dl
namespace Go.Dl
open Go Go.RowKit
def setMany : List DV → Nat → List DV → List DV
  | cells, _, [] => cells
  | cells, off, d :: ds => setMany (cells.set off d) (off + 1) ds
def cellsOfDV : DV → Option (List DV)
  | .agg cs => some cs
  | .dead | .when _ _ => none
  | d => some [d]
def zeroDV (P : Program) (t : TypeId) : Option (List DV) :=
  match (P.info? t).bind (·.zero) with
  | some z => if z.cells.toList.all Value.oneCell' then some (z.cells.toList.map .v) else none
  | none => none
def fldPlaces (P : Program) (t : TypeId) : Option (List (Nat × Nat)) :=
  match P.underlying t with
  | some (.struct fs) => if fs.toList.all (fun f => (P.info? f.type).isSome) then some (fs.toList.map fun f => (f.offset, P.cellsOf f.type)) else none
  | _ => none
def slElem (P : Program) (t : TypeId) : Option Nat :=
  match P.underlying t with
  | some (.slice e) => (P.info? e).map (·.size)
  | _ => none
def arElem (P : Program) (t : TypeId) : Option (Nat × Nat) :=
  match P.underlying t with
  | some (.array n e) => (P.info? e).map fun i => (n, i.size)
  | _ => none
def evb (ρ : Operand → DV) (g : Bool) : Option Operand → Int → (Int → Prop) → Prop
  | none, z, K => K z
  | some x, _, K => evg g (ρ x) fun | .v (.int _ i) => K i | _ => False
def capB (s : Sto) (id sz h : Nat) : Bool := match s.ob id with | some o => o.sz == sz && decide (0 < sz) && decide (h * sz ≤ o.cells.length) | none => false
noncomputable def dfill (ρ : Operand → DV) (g : Bool) (place : Nat → Option (Nat × Nat)) (parts : List (Nat × Operand)) : List DV → (List DV → Prop) → Prop :=
  List.rec (motive := fun _ => List DV → (List DV → Prop) → Prop) (fun cells K => K cells)
    (fun p _ next cells K => match place p.1 with
      | none => False
      | some pl => evg g (ρ p.2) fun d => (match cellsOfDV d with
        | some ds => (g = true → ds.length = pl.2 ∧ pl.1 + pl.2 ≤ cells.length) ∧ forceL (setMany cells pl.1 ds) fun cells => next cells K
        | none => False)) parts
def dqCall (P : Program) (s : Sto) (ρ : Operand → DV) (g : Bool) (c : Call) (K : DV → Prop) : Prop :=
  match c.callee, c.args.toList, c.argTypes.toList with
  | .builtin .len, [x], [t] => evg g (ρ x) fun
    | .v u => (match u with
      | .string s => (g = true → isStr P t = true) ∧ K (.v (.int .i64 s.size))
      | .slice _ n _ => (g = true → (slElem P t).isSome = true) ∧ K (.v (.int .i64 n))
      | _ => False)
    | .lst _ es => (g = true → (slElem P t).isSome = true) ∧ K (.v (.int .i64 es.length))
    | .arr _ len => (g = true → (slElem P t).isSome = true) ∧ K (.v (.int .i64 len))
    | .sub _ _ len => (g = true → (slElem P t).isSome = true) ∧ K (.v (.int .i64 len))
    | _ => False
  | .builtin .min, [x, y], _ => evg g (ρ x) fun dx => evg g (ρ y) fun dy => (match dx, dy with
    | .v (.int k a), .v (.int _ b) => K (.v (.int k (if b < a then b else a)))
    | _, _ => False)
  | .builtin .max, [x, y], _ => evg g (ρ x) fun dx => evg g (ρ y) fun dy => (match dx, dy with
    | .v (.int k a), .v (.int _ b) => K (.v (.int k (if a < b then b else a)))
    | _, _ => False)
  | _, _, _ => ∃ d, (g = true → QSem P s (.call c) ρ d) ∧ K d
def dloadE (P : Program) (t : TypeId) (es : List (List DV)) (i off : Nat) (g : Bool) (K : DV → Prop) : Prop :=
  ∃ cells, (g = true → cells = es.getD i []) ∧ dload P t cells off g K
theorem dloadE_go {P : Program} {t : TypeId} {es : List (List DV)} {i off : Nat} {g : Bool} {K : DV → Prop} (h : dload P t (es.getD i []) off g K) : dloadE P t es i off g K := ⟨_, fun _ => rfl, h⟩
theorem dloadE_map {α : Type} {P : Program} {t : TypeId} {ls : List α} {f : α → List DV} {i off : Nat} {g : Bool} {K : DV → Prop} (d : α) (hi : g = true → i < ls.length) (h : dload P t (f (ls.getD i d)) off g K) : dloadE P t (ls.map f) i off g K :=
  ⟨_, fun hg => by simp [List.getD_eq_getElem?_getD, List.getElem?_eq_getElem (hi hg)], h⟩
def forceN (n : Nat) (K : Nat → Prop) : Prop :=
  match n with
  | 0 => K 0
  | 1 => K 1
  | 2 => K 2
  | 3 => K 3
  | 4 => K 4
  | 5 => K 5
  | 6 => K 6
  | 7 => K 7
  | 8 => K 8
  | n => K n
theorem forceN_eq (n : Nat) (K : Nat → Prop) : forceN n K = K n := by unfold forceN; split <;> rfl
def darr (g : Bool) (i : Int) (len : Nat) (K : Nat → Prop) : Prop := (g = true → 0 ≤ i ∧ i < len) ∧ K i.toNat
noncomputable def dq (P : Program) (s : Sto) (ρ : Operand → DV) (g : Bool) : Op → (DV → Prop) → Prop
  | .move x, K | .assign x, K => K (ρ x)
  | .pick c a b, K => evg g (ρ c) fun
    | .v (.bool t) => evg (g && t) (ρ a) fun da => evg (g && !t) (ρ b) fun db => (match da, db with
      | .v (.bool x), .v (.bool y) => K (.v (.bool (bif t then x else y)))
      | _, _ => (t = true → K da) ∧ (t = false → K db))
    | _ => False
  | .load t x, K => evg g (ρ x) fun
    | .ref id off => (match s.ob id with | some o => cellsO o.elem (dload P t o.cells off g K) | none => False)
    | .lref _ es i off => dloadE P t es i off g K
    | _ => g = false ∧ K .dead
  | .nilCheck x, K => evg g (ρ x) fun
    | .ref id off => K (.ref id off)
    | .lref sz es i off => K (.lref sz es i off)
    | .clo (.func f) a b => K (.clo (.func f) a b)
    | _ => g = false ∧ K .dead
  | .binOp op t x y _, K => evg g (ρ x) fun dx => evg g (ρ y) fun dy => (match dx, dy with
    | .v (.int _ _), .v (.int _ _) | .v (.string _), .v (.string _) => dbin op g dx dy K
    | .v (.bool a), .v (.bool b) => (match op with
      | .eql => (g = true → isBoolT P t = true) ∧ K (.v (.bool (a == b)))
      | .neq => (g = true → isBoolT P t = true) ∧ K (.v (.bool (a != b)))
      | _ => False)
    | _, _ => ∃ d, (g = true → QSem P s (.binOp op t x y 0) ρ d) ∧ K d)
  | .unOp op _ x, K => evg g (ρ x) fun dx => (match op, dx with
    | .not, .v (.bool b) => K (.v (.bool (!b)))
    | .neg, .v (.int k n) => K (.v (.int k (k.wrap (0 - n))))
    | _, _ => g = false ∧ K .dead)
  | .convert src dst x, K => evg g (ρ x) fun
    | .v (.int _ n) => (match intK P dst with | some k => (g = true → isKnown P src = true) ∧ K (.v (.int k (k.wrap n))) | none => False)
    | .v (.string s) => (g = true → isStr P dst = true ∧ isStr P src = true) ∧ K (.v (.string s))
    | _ => ∃ d, (g = true → QSem P s (.convert src dst x) ρ d) ∧ K d
  | .fieldAddr t x f, K => (match fldOff P t f with
    | some fo => evg g (ρ x) fun
      | .ref id off => K (.ref id (off + fo))
      | .lref sz es i off => K (.lref sz es i (off + fo))
      | _ => g = false ∧ K .dead
    | none => False)
  | .indexAddr t x ix, K => evg g (ρ x) fun dx => evg g (ρ ix) fun dix => (match dx, dix with
    | .lst sz es, .v (.int _ i) => (g = true → slElem P t = some sz ∧ 0 ≤ i ∧ i < es.length) ∧ K (.lref sz es i.toNat 0)
    | .arr id len, .v (.int _ i) => (match slElem P t with | some sz => forceN sz fun sz => darr g i len fun m => K (.ref id (m * sz)) | none => False)
    | .sub id off len, .v (.int _ i) => (match slElem P t with | some sz => forceN sz fun sz => darr g i len fun m => K (.ref id (off + m * sz)) | none => False)
    | .ref id off, .v (.int _ i) => (match arElem P t with | some (n, sz) => forceN sz fun sz => darr g i n fun m => K (.ref id (off + m * sz)) | none => False)
    | _, _ => False)
  | .index t x ix, K => evg g (ρ x) fun dx => evg g (ρ ix) fun dix => (match dx, dix with
    | .v (.string s), .v (.int _ i) => (g = true → isStr P t = true ∧ 0 ≤ i ∧ i < s.size) ∧ K (.v (.int .u8 (byteAt s i.toNat)))
    | _, _ => False)
  | .slice t x lo hi none, K => evg g (ρ x) fun
    | .v (.string s) => evb ρ g lo 0 fun l => evb ρ g hi s.size fun h =>
      (g = true → isStr P t = true ∧ 0 ≤ l ∧ l ≤ h ∧ h ≤ s.size) ∧ K (.v (.string (s.extract l.toNat h.toNat)))
    | .lst sz es => evb ρ g lo 0 fun l => evb ρ g hi es.length fun h =>
      (g = true → slElem P t = some sz ∧ 0 ≤ l ∧ l ≤ h ∧ h ≤ es.length) ∧ K (.lst sz ((es.take h.toNat).drop l.toNat))
    | .arr id len => (match lo with
      | none => evb ρ g hi len fun h => (g = true → (slElem P t).isSome = true ∧ 0 ≤ h ∧ h ≤ len) ∧ K (.arr id h.toNat)
      | some lo => evb ρ g (some lo) 0 fun l => evb ρ g hi len fun h => (match slElem P t with
        | some sz => (g = true → 0 ≤ l ∧ l ≤ h ∧ (h ≤ len ∨ capB s id sz h.toNat = true)) ∧ K (.sub id (l.toNat * sz) (h - l).toNat)
        | none => False))
    | .sub id off len => evb ρ g lo 0 fun l => evb ρ g hi len fun h => (match slElem P t with
      | some sz => (g = true → 0 ≤ l ∧ l ≤ h ∧ h ≤ len) ∧ K (.sub id (off + l.toNat * sz) (h - l).toNat)
      | none => False)
    | _ => False
  | .slice t x lo hi (some mx), K => evg g (ρ x) fun
    | .lst sz es => evb ρ g lo 0 fun l => evb ρ g hi es.length fun h => evb ρ g (some mx) 0 fun m =>
      (g = true → hi.isSome = true ∧ slElem P t = some sz ∧ 0 ≤ l ∧ l ≤ h ∧ h ≤ m ∧ m ≤ es.length) ∧ K (.lst sz ((es.take h.toNat).drop l.toNat))
    | .arr id len => evb ρ g lo 0 fun l => evb ρ g hi len fun h => evb ρ g (some mx) 0 fun m => (match slElem P t with
      | some sz => (g = true → hi.isSome = true ∧ 0 ≤ l ∧ l ≤ h ∧ h ≤ m ∧ m ≤ len) ∧ K (.sub id (l.toNat * sz) (h - l).toNat)
      | none => False)
    | .sub id off len => evb ρ g lo 0 fun l => evb ρ g hi len fun h => evb ρ g (some mx) 0 fun m => (match slElem P t with
      | some sz => (g = true → hi.isSome = true ∧ 0 ≤ l ∧ l ≤ h ∧ h ≤ m ∧ m ≤ len) ∧ K (.sub id (off + l.toNat * sz) (h - l).toNat)
      | none => False)
    | _ => False
  | .extract x i, K => evg g (ρ x) fun
    | .tup ds => (g = true → i < ds.length) ∧ K (ds.getD i .dead)
    | _ => False
  | .makeInterface t x, K => (g = true → isKnown P t = true ∧ (P.underlying t).all (fun | .interface _ => false | _ => true) = true) ∧ K (.ifc t (ρ x))
  | .makeFunc fn first captured, K => K (.clo fn (first.toList.map ρ) (captured.toList.map ρ))
  | .build t parts, K => (match zeroDV P t, fldPlaces P t, arElem P t with
    | some z, some pl, _ => dfill ρ g (fun i => pl[i]?) parts.toList z fun cs => forceL cs fun cs => K (.agg cs)
    | some z, none, some (_, sz) => forceN sz fun sz => dfill ρ g (fun i => some (i * sz, sz)) parts.toList z fun cs => forceL cs fun cs => K (.agg cs)
    | _, _, _ => False)
  | .call c, K => dqCall P s ρ g c K
  | op, K => ∃ d, (g = true → QSem P s op ρ d) ∧ K d
theorem binOp_bool_eql {P : Program} {t : TypeId} (h : isBoolT P t = true) (a b : Bool) (w : World) : (binOp .eql t (.bool a) (.bool b)).run P w = .ok (.bool (a == b)) w := by
  unfold isBoolT at h
  split at h
  · rename_i h1
    simp only [binOp, Op.equal, Op.maxDepth, Sem.run_bind, run_equalIn_bool w 9999 t a b h1, Result.andThen_ok, Sem.run_pure]
  · cases h
theorem binOp_bool_neq {P : Program} {t : TypeId} (h : isBoolT P t = true) (a b : Bool) (w : World) : (binOp .neq t (.bool a) (.bool b)).run P w = .ok (.bool (a != b)) w := by
  unfold isBoolT at h
  split at h
  · rename_i h1
    simp only [binOp, Op.equal, Op.maxDepth, Sem.run_bind, run_equalIn_bool w 9999 t a b h1, Result.andThen_ok, Sem.run_pure, bne]
  · cases h
section
variable {P : Program} {s : Sto} {ρ : Operand → DV} {g : Bool} {K : DV → Prop}
theorem sound_pick {c x y : Operand} (h : dq P s ρ g (.pick c x y) K) : ∃ d, K d ∧ (g = true → QSem P s (.pick c x y) ρ d) := by
  simp only [dq] at h
  obtain ⟨dc, h, hc⟩ := evg_sound _ h
  split at h
  · rename_i t
    obtain ⟨da, h, ha⟩ := evg_sound _ h
    obtain ⟨db, h, hb⟩ := evg_sound _ h
    have key : ∀ (d : DV), (g = true → t = true → ∀ w F β x, RV w F β da x → RV w F β d x) → (g = true → t = false → ∀ w F β x, RV w F β db x → RV w F β d x) → K d →
        ∃ d, K d ∧ (g = true → QSem P s (.pick c x y) ρ d) := fun d h1 h2 hK => by
      refine ⟨d, hK, fun hg w0 F0 β w a hs hρ => ?_⟩
      have e := rv_v (hc hg _ _ _ _ (hρ c))
      refine ⟨if t then a.eval x else a.eval y, ?_, fun o w' ho _ => ?_⟩
      · cases t with
        | true => exact h1 hg rfl _ _ _ _ (ha (by simp [hg]) _ _ _ _ (hρ x))
        | false => exact h2 hg rfl _ _ _ _ (hb (by simp [hg]) _ _ _ _ (hρ y))
      · have e' : a.eval c = .bool t := e
        simp only [execOp, ho, Sem.run_bind, e', asBool, Sem.run_pure, Result.andThen_ok]
    split at h
    · rename_i u v
      refine key _ (fun _ ht w F β x hx => ?_) (fun _ ht w F β x hx => ?_) h <;> (rw [rv_v hx, ht]; exact .data (.v _ rfl))
    · cases t with
      | true => exact key da (fun _ _ _ _ _ _ h => h) (fun _ e => by cases e) (h.1 rfl)
      | false => exact key db (fun _ e => by cases e) (fun _ _ _ _ _ _ h => h) (h.2 rfl)
  · exact h.elim
theorem sound_load {t : TypeId} {x : Operand} (h : dq P s ρ g (.load t x) K) : ∃ d, K d ∧ (g = true → QSem P s (.load t x) ρ d) := by
  simp only [dq] at h
  obtain ⟨dx, h, hx⟩ := evg_sound _ h
  split at h
  · rename_i id off
    split at h
    · rename_i ob hob
      obtain ⟨hm, h⟩ := cellsO_is h
      obtain ⟨d, h1, h2⟩ := dload_sound h
      refine ⟨d, h1, fun hg w0 F0 β w a hs hρ => ?_⟩
      obtain ⟨b, c, hb, he⟩ := rv_ref (hx hg _ _ _ _ (hρ x))
      rcases hs id ob hob with h3 | ⟨b', c', cur, g1, g2, g3, g4, g5, g6, g7⟩
      · rw [h3.1] at hb; cases hb
      rw [g1] at hb
      simp only [Option.some.injEq, Prod.mk.injEq] at hb
      obtain ⟨rfl, rfl⟩ := hb
      rw [blk_cells hm] at g3
      obtain ⟨v, hv, hr⟩ := h2 hg w F0 β b' 0 cur.toList (fun j dj hj => by
        obtain ⟨y, hy, hry⟩ := g7 j dj hj
        exact ⟨y, by simpa using hy, by simpa [World.cell?, g3] using hy, hry⟩)
      refine ⟨v, hv, fun o w' ho hb => ?_⟩
      have := hr w' (fun _ => hb b' (Array.getElem?_eq_some_iff.1 g3).1 (.inr ⟨id, ob, c', hob, g1⟩))
      simp only [Nat.zero_add] at this
      simp only [execOp, ho, he, Instr.loadAt, Instr.sureAddr, Sem.run_bind, Sem.run_pure, Result.andThen_ok, this]
    · exact h.elim
  · rename_i sz es i off
    obtain ⟨cells, hcells, h⟩ := h
    obtain ⟨d, h1, h2⟩ := dload_sound h
    refine ⟨d, h1, fun hg w0 F0 β w a hs hρ => ?_⟩
    obtain ⟨b, o, cap, hrd, hi, he⟩ := rv_lref (hx hg _ _ _ _ (hρ x))
    rw [hcells hg] at h2
    obtain ⟨hlen, xs, hxs, hcell⟩ := rd_cells hrd (List.getElem?_eq_getElem hi)
    obtain ⟨v, hv, hr⟩ := h2 hg w F0 β b (o + i * sz) xs (fun j dj hj => by
      have hj' : es[i][j]? = some dj := by simpa [List.getD_eq_getElem?_getD, List.getElem?_eq_getElem hi] using hj
      have hjl : j < xs.length := by rw [hxs]; exact (List.getElem?_eq_some_iff.1 hj').1
      obtain ⟨k1, _, k3⟩ := hcell j dj xs[j] hj' (List.getElem?_eq_getElem hjl)
      exact ⟨xs[j], List.getElem?_eq_getElem hjl, k1, .data k3⟩)
    refine ⟨v, hv, fun op w' ho hb => ?_⟩
    have hb' : es.getD i [] ≠ [] → w'.heap[b]? = w.heap[b]? := fun hne => by
      rw [List.getD_eq_getElem?_getD, List.getElem?_eq_getElem hi, Option.getD_some] at hne
      cases hei : es[i] with
      | nil => exact absurd hei hne
      | cons d ds =>
        have h0 : es[i][0]? = some d := by rw [hei]; rfl
        have hx0 : 0 < xs.length := by rw [hxs, hei]; simp
        obtain ⟨k1, k2, _⟩ := hcell 0 d xs[0] h0 (List.getElem?_eq_getElem hx0)
        exact hb b (World.block_lt_of_cell? w _ k1) (.inl k2)
    simp only [execOp, ho, he, Instr.loadAt, Instr.sureAddr, Sem.run_bind, Sem.run_pure, Result.andThen_ok, hr w' hb']
  · exact ⟨.dead, h.2, fun hg => by rw [h.1] at hg; cases hg⟩
theorem sound_nilCheck {x : Operand} (h : dq P s ρ g (.nilCheck x) K) : ∃ d, K d ∧ (g = true → QSem P s (.nilCheck x) ρ d) := by
  simp only [dq] at h
  obtain ⟨dx, h, hx⟩ := evg_sound _ h
  split at h
  · refine ⟨_, h, fun hg w0 F0 β w a hs hρ => ?_⟩
    have hv := hx hg _ _ _ _ (hρ x)
    obtain ⟨b, c, hb, he⟩ := rv_ref hv
    exact ⟨a.eval x, hv, fun o w' ho _ => by simp only [execOp, ho, he]; rfl⟩
  · refine ⟨_, h, fun hg w0 F0 β w a hs hρ => ?_⟩
    have hv := hx hg _ _ _ _ (hρ x)
    obtain ⟨b, o, cap, hrd, hi, he⟩ := rv_lref hv
    exact ⟨a.eval x, hv, fun o w' ho _ => by simp only [execOp, ho, he]; rfl⟩
  · refine ⟨_, h, fun hg w0 F0 β w a hs hρ => ?_⟩
    have hv := hx hg _ _ _ _ (hρ x)
    obtain ⟨xs, ys, he, _⟩ := rv_clo hv
    exact ⟨a.eval x, hv, fun o w' ho _ => by simp only [execOp, ho, he]; rfl⟩
  · exact ⟨.dead, h.2, fun hg => by rw [h.1] at hg; cases hg⟩
theorem sound_binOp {op : BinOp} {t yt : TypeId} {x y : Operand} (h : dq P s ρ g (.binOp op t x y yt) K) : ∃ d, K d ∧ (g = true → QSem P s (.binOp op t x y yt) ρ d) := by
  simp only [dq] at h
  obtain ⟨dx, h, hx⟩ := evg_sound _ h
  obtain ⟨dy, h, hy⟩ := evg_sound _ h
  have main : dbin op g dx dy K → ∃ d, K d ∧ (g = true → QSem P s (.binOp op t x y yt) ρ d) := fun h => by
    obtain ⟨d, h1, h2⟩ := dbin_sound (P := P) (t := t) h
    refine ⟨d, h1, fun hg w0 F0 β w a hs hρ => ?_⟩
    obtain ⟨v, hv, hr⟩ := h2 hg _ _ _ x y _ _ (hx hg _ _ _ _ (hρ x)) (hy hg _ _ _ _ (hρ y))
    exact ⟨v, hv, fun o w' ho _ => by
      have := hr w'
      simp only [execOp, ho, Sem.run_bind] at this ⊢
      rw [this]; rfl⟩
  split at h
  · exact main h
  · exact main h
  · split at h
    · obtain ⟨h1, h2⟩ := h
      refine ⟨_, h2, fun hg w0 F0 β w a hs hρ => ⟨_, .data (.v _ rfl), fun o w' ho _ => ?_⟩⟩
      have e1 := rv_v (hx hg _ _ _ _ (hρ x))
      have e2 := rv_v (hy hg _ _ _ _ (hρ y))
      simp only [execOp, ho, e1, e2, Sem.run_bind, eqGuard_at_bool, Sem.run_pure, Result.andThen_ok, binOp_bool_eql (h1 hg)]
    · obtain ⟨h1, h2⟩ := h
      refine ⟨_, h2, fun hg w0 F0 β w a hs hρ => ⟨_, .data (.v _ rfl), fun o w' ho _ => ?_⟩⟩
      have e1 := rv_v (hx hg _ _ _ _ (hρ x))
      have e2 := rv_v (hy hg _ _ _ _ (hρ y))
      simp only [execOp, ho, e1, e2, Sem.run_bind, eqGuard_at_bool, Sem.run_pure, Result.andThen_ok, binOp_bool_neq (h1 hg)]
    · exact h.elim
  · obtain ⟨d, h1, h2⟩ := h
    refine ⟨d, h2, fun hg w0 F0 β w a hs hρ => ?_⟩
    obtain ⟨v, hv, hr⟩ := h1 hg w0 F0 β w a hs hρ
    refine ⟨v, hv, fun o w' ho hb => ?_⟩
    have := hr { o with op := .binOp op t x y 0 } w' rfl hb
    simp only [execOp, ho] at this ⊢
    exact this
theorem sound_unOp {op : UnOp} {t : TypeId} {x : Operand} (h : dq P s ρ g (.unOp op t x) K) : ∃ d, K d ∧ (g = true → QSem P s (.unOp op t x) ρ d) := by
  simp only [dq] at h
  obtain ⟨dx, h, hx⟩ := evg_sound _ h
  split at h
  · refine ⟨_, h, fun hg w0 F0 β w a hs hρ => ⟨_, .data (.v _ rfl), fun o w' ho _ => ?_⟩⟩
    have e1 := rv_v (hx hg _ _ _ _ (hρ x))
    simp only [execOp, ho, e1, Op.unary, Sem.run_bind, Sem.run_pure, Result.andThen_ok]
  · refine ⟨_, h, fun hg w0 F0 β w a hs hρ => ⟨_, .data (.v _ rfl), fun o w' ho _ => ?_⟩⟩
    have e1 := rv_v (hx hg _ _ _ _ (hρ x))
    simp only [execOp, ho, e1, Op.unary, Op.intArith, Sem.run_bind, Sem.run_pure, Result.andThen_ok]
  · exact ⟨.dead, h.2, fun hg => by rw [h.1] at hg; cases hg⟩
theorem sound_convert {src dst : TypeId} {x : Operand} (h : dq P s ρ g (.convert src dst x) K) : ∃ d, K d ∧ (g = true → QSem P s (.convert src dst x) ρ d) := by
  simp only [dq] at h
  obtain ⟨dx, h, hx⟩ := evg_sound _ h
  split at h
  · split at h
    · rename_i k hk
      obtain ⟨h1, h2⟩ := h
      refine ⟨_, h2, fun hg w0 F0 β w a hs hρ => ⟨_, .data (.v _ rfl), fun o w' ho _ => ?_⟩⟩
      have e1 := rv_v (hx hg _ _ _ _ (hρ x))
      obtain ⟨ds, hds⟩ := Option.isSome_iff_exists.1 (h1 hg)
      have hd : P.underlying dst = some (.int k) := by
        unfold intK at hk
        split at hk
        · rename_i k' hk'; cases hk; exact hk'
        · cases hk
      simp only [execOp, ho, e1, convert, Sem.run_bind, run_underlying hds, run_underlying hd, Result.andThen_ok, Conv.intToInt, Sem.run_pure]
    · exact h.elim
  · obtain ⟨h1, h2⟩ := h
    refine ⟨_, h2, fun hg w0 F0 β w a hs hρ => ⟨_, .data (.v _ rfl), fun o w' ho _ => ?_⟩⟩
    have e1 := rv_v (hx hg _ _ _ _ (hρ x))
    have hst : ∀ t, isStr P t = true → P.underlying t = some .string := fun t h => by
      unfold isStr at h
      split at h
      · assumption
      · cases h
    simp only [execOp, ho, e1, convert, Sem.run_bind, run_underlying (hst _ (h1 hg).1), run_underlying (hst _ (h1 hg).2), Result.andThen_ok, Sem.run_pure]
  · obtain ⟨d, h1, h2⟩ := h
    exact ⟨d, h2, h1⟩
end
end Go.Dl
namespace Go.Dl
open Go Go.RowKit
section
variable {P : Program} {s : Sto} {ρ : Operand → DV} {g : Bool} {K : DV → Prop}
theorem fldOff_run {t : TypeId} {f fo : Nat} (h : fldOff P t f = some fo) (b off : Nat) (w : World) :
    (Instr.fieldAt t (.pointer (some ⟨b, off, none⟩)) f).run P w = .ok (.pointer (some ⟨b, off + fo, none⟩)) w := by
  unfold fldOff at h
  split at h
  · rename_i fs h1
    split at h
    · rename_i x h2
      split at h
      · cases h
      · rename_i h3
        simp only [Option.some.injEq] at h
        subst h
        have : ∃ i, P.info? x.type = some i ∧ i.size ≠ 0 := by
          unfold Program.cellsOf at h3
          cases hi : P.info? x.type with
          | none => simp [hi] at h3
          | some i => exact ⟨i, rfl, by simpa [hi] using h3⟩
        obtain ⟨i, hi, hne⟩ := this
        simp [Instr.fieldAt, run_underlying h1, h2, Instr.sureAddr, fieldPlace, sizeOf, typeInfo, hi, hne, Addr.add_lit]
    · cases h
  · cases h
theorem sound_fieldAddr {t : TypeId} {x : Operand} {f : Nat} (h : dq P s ρ g (.fieldAddr t x f) K) : ∃ d, K d ∧ (g = true → QSem P s (.fieldAddr t x f) ρ d) := by
  simp only [dq] at h
  split at h
  · rename_i fo hfo
    obtain ⟨dx, h, hx⟩ := evg_sound _ h
    split at h
    · refine ⟨_, h, fun hg w0 F0 β w a hs hρ => ?_⟩
      obtain ⟨b, c, hb, he⟩ := rv_ref (hx hg _ _ _ _ (hρ x))
      exact ⟨_, .ref _ _ b c hb, fun o w' ho _ => by simp only [execOp, ho, he, Sem.run_bind, fldOff_run hfo, Result.andThen_ok, Sem.run_pure]⟩
    · refine ⟨_, h, fun hg w0 F0 β w a hs hρ => ?_⟩
      obtain ⟨b, o, cap, hrd, hi, he⟩ := rv_lref (hx hg _ _ _ _ (hρ x))
      exact ⟨_, .lref _ _ _ _ b o cap hrd hi, fun op w' ho _ => by simp only [execOp, ho, he, Sem.run_bind, fldOff_run hfo, Result.andThen_ok, Sem.run_pure, Nat.add_assoc]⟩
    · exact ⟨.dead, h.2, fun hg => by rw [h.1] at hg; cases hg⟩
  · exact h.elim
theorem slElem_some {t : TypeId} {sz : Nat} (h : slElem P t = some sz) : ∃ e i, P.underlying t = some (.slice e) ∧ P.info? e = some i ∧ i.size = sz := by
  unfold slElem at h
  split at h
  · rename_i e h1
    cases hi : P.info? e with
    | none => simp [hi] at h
    | some i => exact ⟨e, i, h1, hi, by simpa [hi] using h⟩
  · cases h
theorem arElem_some {t : TypeId} {n sz : Nat} (h : arElem P t = some (n, sz)) : ∃ e i, P.underlying t = some (.array n e) ∧ P.info? e = some i ∧ i.size = sz := by
  unfold arElem at h
  split at h
  · rename_i n' e h1
    cases hi : P.info? e with
    | none => simp [hi] at h
    | some i =>
      simp only [hi, Option.map_some, Option.some.injEq, Prod.mk.injEq] at h
      obtain ⟨rfl, h⟩ := h
      exact ⟨e, i, h1, hi, h⟩
  · cases h
theorem isStr_some {t : TypeId} (h : isStr P t = true) : P.underlying t = some .string := by
  unfold isStr at h
  split at h
  · assumption
  · cases h
theorem run_indexAt_sl {t : TypeId} {sz : Nat} (h : slElem P t = some sz) (b o len cap : Nat) (k : IntKind) (i : Int) (h0 : 0 ≤ i) (h1 : i < len) (w : World) :
    (Instr.indexAt t (.slice (some ⟨b, o, none⟩) len cap) (.int k i)).run P w = .ok (.pointer (some ⟨b, o + i.toNat * sz, none⟩)) w := by
  obtain ⟨e, inf, h2, h3, rfl⟩ := slElem_some h
  simp [Instr.indexAt, asIntOf, run_underlying h2, sizeOf, typeInfo, h3, h0, h1, Addr.add_lit]
theorem sound_indexAddr {t : TypeId} {x ix : Operand} (h : dq P s ρ g (.indexAddr t x ix) K) : ∃ d, K d ∧ (g = true → QSem P s (.indexAddr t x ix) ρ d) := by
  simp only [dq] at h
  obtain ⟨dx, h, hx⟩ := evg_sound _ h
  obtain ⟨dix, h, hix⟩ := evg_sound _ h
  split at h
  · obtain ⟨h1, h2⟩ := h
    refine ⟨_, h2, fun hg w0 F0 β w a hs hρ => ?_⟩
    obtain ⟨hsl, h0, hlt⟩ := h1 hg
    have ei := rv_v (hix hg _ _ _ _ (hρ ix))
    obtain ⟨ad, cap, he, hrd, hle, hcm, hn, hne⟩ := rv_lst (hx hg _ _ _ _ (hρ x))
    obtain ⟨b, o, rfl⟩ := hne (fun e => by subst e; simp at hlt; omega)
    refine ⟨_, .lref _ _ _ _ b o cap hrd (by omega), fun op w' ho _ => ?_⟩
    simp only [execOp, ho, he, ei, Sem.run_bind, run_indexAt_sl hsl b o _ cap _ _ h0 hlt, Result.andThen_ok, Sem.run_pure, Nat.add_zero]
  · split at h
    · rename_i sz hsl
      rw [forceN_eq] at h
      obtain ⟨h1, h2⟩ := h
      refine ⟨_, h2, fun hg w0 F0 β w a hs hρ => ?_⟩
      obtain ⟨h0, hlt⟩ := h1 hg
      have ei := rv_v (hix hg _ _ _ _ (hρ ix))
      rcases rv_arr (hx hg _ _ _ _ (hρ x)) with ⟨b, c, hb, hlc, he⟩ | ⟨_, h3, _⟩
      · refine ⟨_, .ref _ _ b c hb, fun op w' ho _ => ?_⟩
        simp only [execOp, ho, he, ei, Sem.run_bind, run_indexAt_sl hsl b 0 _ c _ _ h0 hlt, Result.andThen_ok, Sem.run_pure, Nat.zero_add]
      · omega
    · exact h.elim
  · split at h
    · rename_i sz hsl
      rw [forceN_eq] at h
      obtain ⟨h1, h2⟩ := h
      refine ⟨_, h2, fun hg w0 F0 β w a hs hρ => ?_⟩
      obtain ⟨h0, hlt⟩ := h1 hg
      have ei := rv_v (hix hg _ _ _ _ (hρ ix))
      obtain ⟨ad, n, he, k1, _, _⟩ := rv_sub (hx hg _ _ _ _ (hρ x))
      obtain ⟨b, c, hb, rfl⟩ := k1 (by omega)
      refine ⟨_, .ref _ _ b c hb, fun op w' ho _ => ?_⟩
      simp only [execOp, ho, he, ei, Sem.run_bind, run_indexAt_sl hsl b _ _ n _ _ h0 hlt, Result.andThen_ok, Sem.run_pure]
    · exact h.elim
  · split at h
    · rename_i n sz har
      rw [forceN_eq] at h
      obtain ⟨h1, h2⟩ := h
      refine ⟨_, h2, fun hg w0 F0 β w a hs hρ => ?_⟩
      obtain ⟨h0, hlt⟩ := h1 hg
      have ei := rv_v (hix hg _ _ _ _ (hρ ix))
      obtain ⟨b, c, hb, he⟩ := rv_ref (hx hg _ _ _ _ (hρ x))
      refine ⟨_, .ref _ _ b c hb, fun op w' ho _ => ?_⟩
      obtain ⟨e, inf, k2, k3, rfl⟩ := arElem_some har
      simp [execOp, ho, he, ei, Instr.indexAt, asIntOf, run_underlying k2, sizeOf, typeInfo, k3, h0, hlt, Addr.add_lit, Instr.sureAddr]
    · exact h.elim
  · exact h.elim
theorem getElem?_data (s : ByteArray) (i : Nat) : s[i]? = s.data[i]? := by
  by_cases h : i < s.size
  · rw [getElem?_pos s i h, getElem?_pos s.data i h]; rfl
  · rw [getElem?_neg s i h, getElem?_neg s.data i h]
theorem byte_get {s : ByteArray} {i : Int} (h0 : 0 ≤ i) (h1 : i < s.size) : s[i.toNat]? = some (s.data.toList.getD i.toNat 0) := by
  have hlt' : i.toNat < s.data.size := by have : s.size = s.data.size := rfl; omega
  rw [getElem?_data, List.getD_eq_getElem?_getD, Array.getElem?_toList, Array.getElem?_eq_getElem hlt']; rfl
theorem sound_index {t : TypeId} {x ix : Operand} (h : dq P s ρ g (.index t x ix) K) : ∃ d, K d ∧ (g = true → QSem P s (.index t x ix) ρ d) := by
  simp only [dq] at h
  obtain ⟨dx, h, hx⟩ := evg_sound _ h
  obtain ⟨dix, h, hix⟩ := evg_sound _ h
  split at h
  · obtain ⟨h1, h2⟩ := h
    refine ⟨_, h2, fun hg w0 F0 β w a hs hρ => ⟨_, .data (.v _ rfl), fun o w' ho _ => ?_⟩⟩
    obtain ⟨hst, h0, hlt⟩ := h1 hg
    have ei := rv_v (hix hg _ _ _ _ (hρ ix))
    have ex := rv_v (hx hg _ _ _ _ (hρ x))
    simp only [execOp, ho, ex, ei, Instr.index, asIntOf, Sem.run_bind, Sem.run_pure, run_underlying (isStr_some hst), Result.andThen_ok, h0, if_true, byte_get h0 hlt, byteAt]
  · exact h.elim
theorem evb_sound {lo : Option Operand} {z : Int} {K : Int → Prop} (h : evb ρ g lo z K) :
    ∃ i, K i ∧ (g = true → ∀ w F β (a : Act), (∀ x, RV w F β (ρ x) (a.eval x)) → (lo = none ∧ i = z) ∨ ∃ x k, lo = some x ∧ a.eval x = .int k i) := by
  cases lo with
  | none => exact ⟨z, h, fun _ _ _ _ _ _ => .inl ⟨rfl, rfl⟩⟩
  | some x =>
    obtain ⟨d, h, hx⟩ := evg_sound _ h
    split at h
    · exact ⟨_, h, fun hg w F β a hρ => .inr ⟨x, _, rfl, rv_v (hx hg _ _ _ _ (hρ x))⟩⟩
    · exact h.elim
theorem run_bounds (isSlice : Bool) (len cap : Nat) (lo hi : Option Value) (l h : Nat) (w : World)
    (hl : (lo = none ∧ l = 0) ∨ ∃ k, lo = some (.int k (l : Int))) (hh : (hi = none ∧ h = len) ∨ ∃ k, hi = some (.int k (h : Int)))
    (h1 : l ≤ h) (h2 : h ≤ len) (h3 : len ≤ cap) : (Instr.sliceBounds isSlice len cap lo hi none).run P w = .ok (l, h, cap) w := by
  rcases hl with ⟨rfl, rfl⟩ | ⟨k, rfl⟩ <;> rcases hh with ⟨rfl, rfl⟩ | ⟨k', rfl⟩ <;>
    simp [Instr.sliceBounds, Instr.sliceBound, asIntOf, h1] <;> omega
theorem run_boundsX (isSlice : Bool) (len cap : Nat) (lo hi : Option Value) (l h : Nat) (w : World)
    (hl : (lo = none ∧ l = 0) ∨ ∃ k, lo = some (.int k (l : Int))) (hh : (hi = none ∧ h = len) ∨ ∃ k, hi = some (.int k (h : Int)))
    (h1 : l ≤ h) (h2 : h ≤ cap) : (Instr.sliceBounds isSlice len cap lo hi none).run P w = .ok (l, h, cap) w := by
  rcases hl with ⟨rfl, rfl⟩ | ⟨k, rfl⟩ <;> rcases hh with ⟨rfl, rfl⟩ | ⟨k', rfl⟩ <;>
    simp [Instr.sliceBounds, Instr.sliceBound, asIntOf, h1] <;> omega
theorem run_bounds3 (isSlice : Bool) (len cap : Nat) (lo hi mx : Option Value) (l h m : Nat) (w : World)
    (hl : (lo = none ∧ l = 0) ∨ ∃ k, lo = some (.int k (l : Int))) (hh : ∃ k, hi = some (.int k (h : Int))) (hm : ∃ k, mx = some (.int k (m : Int)))
    (h1 : l ≤ h) (h2 : h ≤ m) (h3 : m ≤ cap) : (Instr.sliceBounds isSlice len cap lo hi mx).run P w = .ok (l, h, m) w := by
  obtain ⟨k', rfl⟩ := hh
  obtain ⟨k'', rfl⟩ := hm
  rcases hl with ⟨rfl, rfl⟩ | ⟨k, rfl⟩ <;>
    simp [Instr.sliceBounds, Instr.sliceBound, asIntOf, h1, h2, h3]
theorem cap_of {w0 w : World} {F0 : Nat → Prop} {β : Beta} {s : Sto} {id sz h b c : Nat} (hs : ObsF w0 F0 s β w) (hb : β id = some (some (b, c))) (hc : capB s id sz h = true) : h ≤ c := by
  unfold capB at hc
  split at hc
  · rename_i o ho
    simp only [Bool.and_eq_true, beq_iff_eq, decide_eq_true_eq] at hc
    obtain ⟨⟨rfl, h0⟩, hle⟩ := hc
    rcases hs id o ho with g | ⟨b', c', cur, g1, g2, g3, g4, g5, g6, g7⟩
    · rw [g.1] at hb; cases hb
    · rw [g1] at hb
      simp only [Option.some.injEq, Prod.mk.injEq] at hb
      obtain ⟨rfl, rfl⟩ := hb
      exact Nat.le_of_mul_le_mul_right (by omega : h * o.sz ≤ c' * o.sz) h0
  · cases hc
theorem cap_nil {w0 w : World} {F0 : Nat → Prop} {β : Beta} {s : Sto} {id sz h : Nat} (hs : ObsF w0 F0 s β w) (hb : β id = some none) (hc : capB s id sz h = true) : h = 0 := by
  unfold capB at hc
  split at hc
  · rename_i o ho
    simp only [Bool.and_eq_true, beq_iff_eq, decide_eq_true_eq] at hc
    obtain ⟨⟨rfl, h0⟩, hle⟩ := hc
    rcases hs id o ho with g | ⟨b', c', cur, g1, g2, g3, g4, g5, g6, g7⟩
    · rw [g.2] at hle
      simp only [List.length_nil, Nat.le_zero, Nat.mul_eq_zero] at hle
      omega
    · rw [g1] at hb; cases hb
  · cases hc
theorem rv_subsub {w : World} {F : Nat → Prop} {β : Beta} {id off len l m n sz : Nat} {ad : Option Addr} (q1 : 0 < len → ∃ b c, β id = some (some (b, c)) ∧ ad = some ⟨b, off, none⟩) (q2 : ad = none → n = 0) (h1 : l ≤ m) (h2 : m ≤ len) (h3 : m ≤ n) :
    RV w F β (.sub id (off + l * sz) (m - l)) (.slice (if n = l then ad else ad.map (·.add (l * sz))) (m - l) (n - l)) := by
  refine .sub _ _ _ _ _ (fun h0 => ?_) (fun hn => ?_) (by omega)
  · obtain ⟨b, c, hb, rfl⟩ := q1 (by omega)
    exact ⟨b, c, hb, by rw [if_neg (by omega), Option.map_some, Addr.add_lit]⟩
  · split at hn
    · omega
    · have : ad = none := by cases ad with
        | none => rfl
        | some _ => simp at hn
      have := q2 this; omega
theorem rd_slice3 {w : World} {F : Nat → Prop} {sz : Nat} {es : List (List DV)} {a : Option Addr} {cap : Nat} (h : RD w F (.lst sz es) (.slice a es.length cap)) (l m u : Nat) (hlm : l ≤ m) (hmu : m ≤ u) (hu : u ≤ es.length) :
    RD w F (.lst sz ((es.take m).drop l)) (.slice (if u = l then a else a.map (·.add (l * sz))) (m - l) (u - l)) := by
  cases h with
  | lst _ _ _ b off _ g ha hn hc hmx hsz hcell hd =>
    have hlen : ((es.take m).drop l).length = m - l := by simp; omega
    have hget : ∀ (i : Nat) cs, ((es.take m).drop l)[i]? = some cs → es[l + i]? = some cs := fun i cs h => by
      rw [List.getElem?_drop, List.getElem?_take] at h
      split at h
      · exact h
      · cases h
    rw [← hlen]
    refine .lst sz _ _ b (off + l * sz) _ (fun i j => g (l + i) j) (fun hne => ?_) (fun hna => ?_) (by omega) (by omega) (fun i cs hi => hsz _ _ (hget i cs hi)) (fun i cs j d hi hj => ?_) (fun i cs j d hi hj => hd _ _ _ _ (hget i cs hi) hj)
    · have hpos : 0 < m - l := by rw [← hlen]; exact List.length_pos_iff.2 hne
      have hne' : es ≠ [] := fun e => by subst e; simp at hu; omega
      have := ha hne'
      subst this
      rw [if_neg (by omega)]
      simp [Addr.add_lit]
    · split at hna
      · omega
      · cases a with
        | none => have := hn rfl; omega
        | some _ => simp at hna
    · have := hcell (l + i) cs j d (hget i cs hi) hj
      rw [show off + (l + i) * sz + j = off + l * sz + i * sz + j by rw [Nat.add_mul]; omega] at this
      exact this
theorem rd_slice {w : World} {F : Nat → Prop} {sz : Nat} {es : List (List DV)} {a : Option Addr} {cap : Nat} (h : RD w F (.lst sz es) (.slice a es.length cap)) (l m : Nat) (hlm : l ≤ m) (hm : m ≤ es.length) :
    RD w F (.lst sz ((es.take m).drop l)) (.slice (if cap = l then a else a.map (·.add (l * sz))) (m - l) (cap - l)) := by
  cases h with
  | lst _ _ _ b off _ g ha hn hc hmx hsz hcell hd =>
    have hlen : ((es.take m).drop l).length = m - l := by simp; omega
    have hget : ∀ (i : Nat) cs, ((es.take m).drop l)[i]? = some cs → es[l + i]? = some cs := fun i cs h => by
      rw [List.getElem?_drop, List.getElem?_take] at h
      split at h
      · exact h
      · cases h
    rw [← hlen]
    refine .lst sz _ _ b (off + l * sz) _ (fun i j => g (l + i) j) (fun hne => ?_) (fun hna => ?_) (by omega) (by omega) (fun i cs hi => hsz _ _ (hget i cs hi)) (fun i cs j d hi hj => ?_) (fun i cs j d hi hj => hd _ _ _ _ (hget i cs hi) hj)
    · have hpos : 0 < m - l := by rw [← hlen]; exact List.length_pos_iff.2 hne
      have hne' : es ≠ [] := fun e => by subst e; simp at hm; omega
      have := ha hne'
      subst this
      rw [if_neg (by omega)]
      simp [Addr.add_lit]
    · split at hna
      · have := hn hna; omega
      · cases a with
        | none => have := hn rfl; omega
        | some _ => simp at hna
    · have := hcell (l + i) cs j d (hget i cs hi) hj
      rw [show off + (l + i) * sz + j = off + l * sz + i * sz + j by rw [Nat.add_mul]; omega] at this
      exact this
theorem sound_slice {t : TypeId} {x : Operand} {lo hi : Option Operand} (h : dq P s ρ g (.slice t x lo hi none) K) : ∃ d, K d ∧ (g = true → QSem P s (.slice t x lo hi none) ρ d) := by
  simp only [dq] at h
  obtain ⟨dx, h, hx⟩ := evg_sound _ h
  have bnd : ∀ {o : Option Operand} {i z : Int} {a : Act} (_ : 0 ≤ i), ((o = none ∧ i = z) ∨ ∃ x k, o = some x ∧ a.eval x = .int k i) → ∀ (n : Nat), z = n →
      (o.map a.eval = none ∧ i.toNat = n) ∨ ∃ k, o.map a.eval = some (.int k (i.toNat : Int)) := fun hi h n hz => by
    rcases h with ⟨rfl, rfl⟩ | ⟨x, k, rfl, e⟩
    · exact .inl ⟨rfl, by omega⟩
    · exact .inr ⟨k, by simp only [Option.map_some, e, Int.toNat_of_nonneg hi]⟩
  split at h
  · rename_i str
    obtain ⟨l, h, hl⟩ := evb_sound h
    obtain ⟨m, h, hm⟩ := evb_sound h
    obtain ⟨h1, h2⟩ := h
    refine ⟨_, h2, fun hg w0 F0 β w a hs hρ => ⟨_, .data (.v _ rfl), fun o w' ho _ => ?_⟩⟩
    obtain ⟨hst, k0, k1, k2⟩ := h1 hg
    have ex := rv_v (hx hg _ _ _ _ (hρ x))
    have hb := run_bounds (P := P) false str.size str.size (lo.map a.eval) (hi.map a.eval) l.toNat m.toNat w' (bnd k0 (hl hg _ _ _ a hρ) 0 rfl) (bnd (by omega) (hm hg _ _ _ a hρ) str.size rfl) (by omega) (by omega) (by omega)
    simp only [execOp, ho, ex, Instr.sliceAt, Instr.slice, Sem.run_bind, run_underlying (isStr_some hst), Result.andThen_ok, Option.map_none, Option.isSome_none, Bool.false_eq_true, if_false, hb, Sem.run_pure]
  · rename_i sz es
    obtain ⟨l, h, hl⟩ := evb_sound h
    obtain ⟨m, h, hm⟩ := evb_sound h
    obtain ⟨h1, h2⟩ := h
    refine ⟨_, h2, fun hg w0 F0 β w a hs hρ => ?_⟩
    obtain ⟨hsl, k0, k1, k2⟩ := h1 hg
    obtain ⟨e, inf, g2, g3, rfl⟩ := slElem_some hsl
    obtain ⟨ad, cap, he, hrd, hle, hcm, hn, hne⟩ := rv_lst (hx hg _ _ _ _ (hρ x))
    refine ⟨_, .data (rd_slice hrd l.toNat m.toNat (by omega) (by omega)), fun o w' ho _ => ?_⟩
    have hb := run_bounds (P := P) true es.length cap (lo.map a.eval) (hi.map a.eval) l.toNat m.toNat w' (bnd k0 (hl hg _ _ _ a hρ) 0 rfl) (bnd (by omega) (hm hg _ _ _ a hρ) es.length rfl) (by omega) (by omega) hle
    simp only [execOp, ho, he, Instr.sliceAt, Instr.slice, Sem.run_bind, run_underlying g2, Result.andThen_ok, Option.map_none, hb, Sem.run_pure, sizeOf, typeInfo, run_program, g3]
  · rename_i id len
    split at h
    · obtain ⟨m, h, hm⟩ := evb_sound h
      obtain ⟨h1, h2⟩ := h
      refine ⟨_, h2, fun hg w0 F0 β w a hs hρ => ?_⟩
      obtain ⟨hsl, k1, k2⟩ := h1 hg
      obtain ⟨sz, hsz⟩ := Option.isSome_iff_exists.1 hsl
      obtain ⟨e, inf, g2, g3, rfl⟩ := slElem_some hsz
      rcases rv_arr (hx hg _ _ _ _ (hρ x)) with ⟨b, c, hb, hlc, he⟩ | ⟨hb, h3, he⟩
      · refine ⟨.slice (some ⟨b, 0, none⟩) m.toNat c, .arr _ _ b c hb (by omega), fun o w' ho _ => ?_⟩
        have hb := run_bounds (P := P) true len c none (hi.map a.eval) 0 m.toNat w' (.inl ⟨rfl, rfl⟩) (bnd k1 (hm hg _ _ _ a hρ) len rfl) (by omega) (by omega) hlc
        simp only [execOp, ho, he, Instr.sliceAt, Instr.slice, Sem.run_bind, run_underlying g2, Result.andThen_ok, Option.map_none, hb, Sem.run_pure, sizeOf, typeInfo, run_program, g3, Nat.sub_zero, Nat.zero_mul, Addr.add_zero', Option.map_some, ite_self]
      · subst h3
        have hm0 : m = 0 := by omega
        subst hm0
        refine ⟨.slice none 0 0, .arrNil _ hb, fun o w' ho _ => ?_⟩
        have hb := run_bounds (P := P) true 0 0 none (hi.map a.eval) 0 0 w' (.inl ⟨rfl, rfl⟩) (bnd (Int.le_refl 0) (hm hg _ _ _ a hρ) 0 rfl) (by omega) (by omega) (by omega)
        simp only [execOp, ho, he, Instr.sliceAt, Instr.slice, Sem.run_bind, run_underlying g2, Result.andThen_ok, Option.map_none, hb, Sem.run_pure, sizeOf, typeInfo, run_program, g3, if_true, Nat.sub_zero]
    · obtain ⟨l, h, hl⟩ := evb_sound h
      obtain ⟨m, h, hm⟩ := evb_sound h
      split at h
      · rename_i sz hsz
        obtain ⟨h1, h2⟩ := h
        refine ⟨_, h2, fun hg w0 F0 β w a hs hρ => ?_⟩
        obtain ⟨k0, k1, k2⟩ := h1 hg
        obtain ⟨e, inf, g2, g3, rfl⟩ := slElem_some hsz
        rcases rv_arr (hx hg _ _ _ _ (hρ x)) with ⟨b, c, hb, hlc, he⟩ | ⟨hb, h3, he⟩
        · have hmc : m.toNat ≤ c := by
            rcases k2 with k2 | k2
            · omega
            · exact cap_of hs hb k2
          refine ⟨.slice (if c = l.toNat then some ⟨b, 0, none⟩ else (some (⟨b, 0, none⟩ : Addr)).map (·.add (l.toNat * inf.size))) (m.toNat - l.toNat) (c - l.toNat), ?_, fun o w' ho _ => ?_⟩
          · rw [show (m - l).toNat = m.toNat - l.toNat by omega]
            refine .sub _ _ _ _ _ (fun h0 => ⟨b, c, hb, ?_⟩) (fun hn => ?_) (by omega)
            · rw [if_neg (by omega), Option.map_some, Addr.add_lit, Nat.zero_add]
            · split at hn <;> simp at hn
          · have hb := run_boundsX (P := P) true len c _ (hi.map a.eval) l.toNat m.toNat w' (bnd k0 (hl hg _ _ _ a hρ) 0 rfl) (bnd (by omega) (hm hg _ _ _ a hρ) len rfl) (by omega) (by omega)
            simp only [execOp, ho, he, Instr.sliceAt, Instr.slice, Sem.run_bind, run_underlying g2, Result.andThen_ok, Option.map_none, hb, Sem.run_pure, sizeOf, typeInfo, run_program, g3]
        · subst h3
          have hm0 : m = 0 := by
            rcases k2 with k2 | k2
            · omega
            · have := cap_nil hs hb k2; omega
          subst hm0
          have hl0 : l = 0 := by omega
          subst hl0
          refine ⟨.slice none 0 0, .sub _ _ _ _ _ (fun h0 => absurd h0 (by simp)) (fun _ => rfl) (by simp), fun o w' ho _ => ?_⟩
          have hb := run_bounds (P := P) true 0 0 _ (hi.map a.eval) 0 0 w' (bnd (Int.le_refl 0) (hl hg _ _ _ a hρ) 0 rfl) (bnd (Int.le_refl 0) (hm hg _ _ _ a hρ) 0 rfl) (by omega) (by omega) (by omega)
          simp only [execOp, ho, he, Instr.sliceAt, Instr.slice, Sem.run_bind, run_underlying g2, Result.andThen_ok, Option.map_none, hb, Sem.run_pure, sizeOf, typeInfo, run_program, g3, if_true, Nat.sub_zero]
      · exact h.elim
  · rename_i id off len
    obtain ⟨l, h, hl⟩ := evb_sound h
    obtain ⟨m, h, hm⟩ := evb_sound h
    split at h
    · rename_i sz hsz
      obtain ⟨h1, h2⟩ := h
      refine ⟨_, h2, fun hg w0 F0 β w a hs hρ => ?_⟩
      obtain ⟨k0, k1, k2⟩ := h1 hg
      obtain ⟨e, inf, g2, g3, rfl⟩ := slElem_some hsz
      obtain ⟨ad, n, he, q1, q2, q3⟩ := rv_sub (hx hg _ _ _ _ (hρ x))
      refine ⟨.slice (if n = l.toNat then ad else ad.map (·.add (l.toNat * inf.size))) (m.toNat - l.toNat) (n - l.toNat), ?_, fun o w' ho _ => ?_⟩
      · rw [show (m - l).toNat = m.toNat - l.toNat by omega]
        exact rv_subsub q1 q2 (by omega) (by omega) (by omega)
      · have hb := run_bounds (P := P) true len n (lo.map a.eval) (hi.map a.eval) l.toNat m.toNat w' (bnd k0 (hl hg _ _ _ a hρ) 0 rfl) (bnd (by omega) (hm hg _ _ _ a hρ) len rfl) (by omega) (by omega) q3
        simp only [execOp, ho, he, Instr.sliceAt, Instr.slice, Sem.run_bind, run_underlying g2, Result.andThen_ok, Option.map_none, hb, Sem.run_pure, sizeOf, typeInfo, run_program, g3]
    · exact h.elim
  · exact h.elim
theorem sound_slice3 {t : TypeId} {x mx : Operand} {lo hi : Option Operand} (h : dq P s ρ g (.slice t x lo hi (some mx)) K) : ∃ d, K d ∧ (g = true → QSem P s (.slice t x lo hi (some mx)) ρ d) := by
  simp only [dq] at h
  obtain ⟨dx, h, hx⟩ := evg_sound _ h
  have bnd : ∀ {o : Option Operand} {i z : Int} {a : Act} (_ : 0 ≤ i), ((o = none ∧ i = z) ∨ ∃ x k, o = some x ∧ a.eval x = .int k i) → ∀ (n : Nat), z = n →
      (o.map a.eval = none ∧ i.toNat = n) ∨ ∃ k, o.map a.eval = some (.int k (i.toNat : Int)) := fun hi h n hz => by
    rcases h with ⟨rfl, rfl⟩ | ⟨x, k, rfl, e⟩
    · exact .inl ⟨rfl, by omega⟩
    · exact .inr ⟨k, by simp only [Option.map_some, e, Int.toNat_of_nonneg hi]⟩
  have bnh : ∀ {o : Option Operand} {i z : Int} {a : Act} (_ : 0 ≤ i) (_ : o.isSome = true), ((o = none ∧ i = z) ∨ ∃ x k, o = some x ∧ a.eval x = .int k i) →
      ∃ k, o.map a.eval = some (.int k (i.toNat : Int)) := fun hi ho h => by
    rcases h with ⟨rfl, rfl⟩ | ⟨x, k, rfl, e⟩
    · simp at ho
    · exact ⟨k, by simp only [Option.map_some, e, Int.toNat_of_nonneg hi]⟩
  split at h
  · rename_i sz es
    obtain ⟨l, h, hl⟩ := evb_sound h
    obtain ⟨m, h, hm⟩ := evb_sound h
    obtain ⟨u, h, hu⟩ := evb_sound h
    obtain ⟨h1, h2⟩ := h
    refine ⟨_, h2, fun hg w0 F0 β w a hs hρ => ?_⟩
    obtain ⟨hhi, hsl, k0, k1, k2, k3⟩ := h1 hg
    obtain ⟨e, inf, g2, g3, rfl⟩ := slElem_some hsl
    obtain ⟨ad, cap, he, hrd, hle, hcm, hn, hne⟩ := rv_lst (hx hg _ _ _ _ (hρ x))
    refine ⟨_, .data (rd_slice3 hrd l.toNat m.toNat u.toNat (by omega) (by omega) (by omega)), fun o w' ho _ => ?_⟩
    have hb := run_bounds3 (P := P) true es.length cap (lo.map a.eval) (hi.map a.eval) ((some mx).map a.eval) l.toNat m.toNat u.toNat w' (bnd k0 (hl hg _ _ _ a hρ) 0 rfl) (bnh (by omega) hhi (hm hg _ _ _ a hρ)) (bnh (by omega) rfl (hu hg _ _ _ a hρ)) (by omega) (by omega) (by omega)
    simp only [execOp, ho, he, Instr.sliceAt, Instr.slice, Sem.run_bind, run_underlying g2, Result.andThen_ok, hb, Sem.run_pure, sizeOf, typeInfo, run_program, g3]
  · rename_i id len
    obtain ⟨l, h, hl⟩ := evb_sound h
    obtain ⟨m, h, hm⟩ := evb_sound h
    obtain ⟨u, h, hu⟩ := evb_sound h
    split at h
    · rename_i sz hsz
      obtain ⟨h1, h2⟩ := h
      refine ⟨_, h2, fun hg w0 F0 β w a hs hρ => ?_⟩
      obtain ⟨hhi, k0, k1, k2, k3⟩ := h1 hg
      obtain ⟨e, inf, g2, g3, rfl⟩ := slElem_some hsz
      have main : ∀ ad n, a.eval x = .slice ad len n → (0 < len → ∃ b c, β id = some (some (b, c)) ∧ ad = some ⟨b, 0, none⟩) → (ad = none → n = 0) → len ≤ n →
          ∃ v, RV w F0 β (.sub id (l.toNat * inf.size) (m - l).toNat) v ∧ ∀ (o : Oper) w', o.op = .slice t x lo hi (some mx) → Kp F0 s β w w' → (execOp a.eval o).run P w' = .ok (.value v) w' := fun ad n he q1 q2 q3 => by
        refine ⟨.slice (if u.toNat = l.toNat then ad else ad.map (·.add (l.toNat * inf.size))) (m.toNat - l.toNat) (u.toNat - l.toNat), ?_, fun o w' ho _ => ?_⟩
        · rw [show (m - l).toNat = m.toNat - l.toNat by omega]
          have := rv_subsub (F := F0) (w := w) (β := β) (id := id) (off := 0) (len := len) (n := u.toNat) (l := l.toNat) (m := m.toNat) (sz := inf.size) q1 (fun e => by have := q2 e; omega) (by omega) (by omega) (by omega)
          rwa [Nat.zero_add] at this
        · have hb := run_bounds3 (P := P) true len n (lo.map a.eval) (hi.map a.eval) ((some mx).map a.eval) l.toNat m.toNat u.toNat w' (bnd k0 (hl hg _ _ _ a hρ) 0 rfl) (bnh (by omega) hhi (hm hg _ _ _ a hρ)) (bnh (by omega) rfl (hu hg _ _ _ a hρ)) (by omega) (by omega) (by omega)
          simp only [execOp, ho, he, Instr.sliceAt, Instr.slice, Sem.run_bind, run_underlying g2, Result.andThen_ok, hb, Sem.run_pure, sizeOf, typeInfo, run_program, g3]
      rcases rv_arr (hx hg _ _ _ _ (hρ x)) with ⟨b, c, hb, hlc, he⟩ | ⟨hb, h3, he⟩
      · exact main _ _ he (fun _ => ⟨b, c, hb, rfl⟩) (fun h => by cases h) hlc
      · subst h3
        exact main _ _ he (fun h => absurd h (by omega)) (fun _ => rfl) (Nat.le_refl _)
    · exact h.elim
  · rename_i id off len
    obtain ⟨l, h, hl⟩ := evb_sound h
    obtain ⟨m, h, hm⟩ := evb_sound h
    obtain ⟨u, h, hu⟩ := evb_sound h
    split at h
    · rename_i sz hsz
      obtain ⟨h1, h2⟩ := h
      refine ⟨_, h2, fun hg w0 F0 β w a hs hρ => ?_⟩
      obtain ⟨hhi, k0, k1, k2, k3⟩ := h1 hg
      obtain ⟨e, inf, g2, g3, rfl⟩ := slElem_some hsz
      obtain ⟨ad, n, he, q1, q2, q3⟩ := rv_sub (hx hg _ _ _ _ (hρ x))
      refine ⟨.slice (if u.toNat = l.toNat then ad else ad.map (·.add (l.toNat * inf.size))) (m.toNat - l.toNat) (u.toNat - l.toNat), ?_, fun o w' ho _ => ?_⟩
      · rw [show (m - l).toNat = m.toNat - l.toNat by omega]
        exact rv_subsub q1 (fun e => by have := q2 e; omega) (by omega) (by omega) (by omega)
      · have hb := run_bounds3 (P := P) true len n (lo.map a.eval) (hi.map a.eval) ((some mx).map a.eval) l.toNat m.toNat u.toNat w' (bnd k0 (hl hg _ _ _ a hρ) 0 rfl) (bnh (by omega) hhi (hm hg _ _ _ a hρ)) (bnh (by omega) rfl (hu hg _ _ _ a hρ)) (by omega) (by omega) (by omega)
        simp only [execOp, ho, he, Instr.sliceAt, Instr.slice, Sem.run_bind, run_underlying g2, Result.andThen_ok, hb, Sem.run_pure, sizeOf, typeInfo, run_program, g3]
    · exact h.elim
  · exact h.elim
theorem sound_extract {x : Operand} {i : Nat} (h : dq P s ρ g (.extract x i) K) : ∃ d, K d ∧ (g = true → QSem P s (.extract x i) ρ d) := by
  simp only [dq] at h
  obtain ⟨dx, h, hx⟩ := evg_sound _ h
  split at h
  · rename_i ds
    obtain ⟨h1, h2⟩ := h
    refine ⟨_, h2, fun hg w0 F0 β w a hs hρ => ?_⟩
    have hlt := h1 hg
    obtain ⟨xs, he, hl, hp⟩ := rv_tup (hx hg _ _ _ _ (hρ x))
    have hlt' : i < xs.length := by omega
    refine ⟨xs[i], ?_, fun o w' ho _ => ?_⟩
    · rw [List.getD_eq_getElem?_getD, List.getElem?_eq_getElem hlt]
      exact hp i _ _ (List.getElem?_eq_getElem hlt) (List.getElem?_eq_getElem hlt')
    · simp [execOp, ho, he, Instr.extract, List.getElem?_eq_getElem hlt']
  · exact h.elim
theorem sound_makeInterface {t : TypeId} {x : Operand} (h : dq P s ρ g (.makeInterface t x) K) : ∃ d, K d ∧ (g = true → QSem P s (.makeInterface t x) ρ d) := by
  simp only [dq] at h
  obtain ⟨h1, h2⟩ := h
  refine ⟨_, h2, fun hg w0 F0 β w a hs hρ => ⟨_, .ifc _ _ _ (hρ x), fun o w' ho _ => ?_⟩⟩
  obtain ⟨k1, k2⟩ := h1 hg
  obtain ⟨d, hd⟩ := Option.isSome_iff_exists.1 k1
  simp only [hd, Option.all_some] at k2
  simp only [execOp, ho, Instr.makeInterface, Sem.run_bind, run_underlying hd, Result.andThen_ok]
  split
  · cases k2
  · simp
theorem rv_map {w : World} {F : Nat → Prop} {β : Beta} (xs : List Operand) (ev : Operand → Value) (hρ : ∀ x, RV w F β (ρ x) (ev x)) :
    ∀ (i : Nat) d y, (xs.map ρ)[i]? = some d → (xs.map ev)[i]? = some y → RV w F β d y := fun i d y h1 h2 => by
  simp only [List.getElem?_map] at h1 h2
  cases hx : xs[i]? with
  | none => simp [hx] at h1
  | some x =>
    simp only [hx, Option.map_some, Option.some.injEq] at h1 h2
    subst h1 h2
    exact hρ x
theorem sound_makeFunc {fn : Fn} {first captured : Array Operand} (h : dq P s ρ g (.makeFunc fn first captured) K) : ∃ d, K d ∧ (g = true → QSem P s (.makeFunc fn first captured) ρ d) := by
  simp only [dq] at h
  refine ⟨_, h, fun hg w0 F0 β w a hs hρ => ⟨.func fn (first.toList.map a.eval).toArray (captured.toList.map a.eval).toArray, .clo _ _ _ _ _ (by simp) (by simp) (rv_map _ _ hρ) (rv_map _ _ hρ), fun o w' ho _ => ?_⟩⟩
  have e : ∀ (xs : Array Operand), (xs.toList.map a.eval).toArray = xs.map a.eval := fun xs => by rw [← Array.toList_map, Array.toArray_toList]
  simp only [execOp, ho, Instr.makeFunc, e, Sem.run_bind, Sem.run_pure, Result.andThen_ok]
end
end Go.Dl
namespace Go.Dl
open Go Go.RowKit
def Pw (w : World) (F : Nat → Prop) (β : Beta) (ds : List DV) (xs : List Value) : Prop :=
  ds.length = xs.length ∧ ∀ (i : Nat) d y, ds[i]? = some d → xs[i]? = some y → RV w F β d y
theorem Pw.nil {w : World} {F : Nat → Prop} {β : Beta} : Pw w F β [] [] := ⟨rfl, fun i d y h => by simp at h⟩
theorem Pw.cons {w : World} {F : Nat → Prop} {β : Beta} {d : DV} {x : Value} {ds : List DV} {xs : List Value} (h : RV w F β d x) (k : Pw w F β ds xs) : Pw w F β (d :: ds) (x :: xs) :=
  ⟨by simp [k.1], fun i d y h1 h2 => by
    cases i with
    | zero => simp at h1 h2; subst h1 h2; exact h
    | succ i => exact k.2 i d y (by simpa using h1) (by simpa using h2)⟩
theorem Pw.tail {w : World} {F : Nat → Prop} {β : Beta} {d : DV} {x : Value} {ds : List DV} {xs : List Value} (k : Pw w F β (d :: ds) (x :: xs)) : RV w F β d x ∧ Pw w F β ds xs :=
  ⟨k.2 0 d x rfl rfl, by simpa using k.1, fun i d y h1 h2 => k.2 (i + 1) d y (by simpa using h1) (by simpa using h2)⟩
theorem Pw.set {w : World} {F : Nat → Prop} {β : Beta} {d : DV} {x : Value} {ds : List DV} {xs : List Value} (k : Pw w F β ds xs) (h : RV w F β d x) (off : Nat) : Pw w F β (ds.set off d) (xs.set off x) := by
  refine ⟨by simp [k.1], fun i d' y h1 h2 => ?_⟩
  have hi : i < ds.length := by have := (List.getElem?_eq_some_iff.1 h1).1; simpa using this
  by_cases e : off = i
  · subst e
    rw [List.getElem?_set_self hi] at h1
    rw [List.getElem?_set_self (by rw [← k.1]; exact hi)] at h2
    cases h1; cases h2; exact h
  · rw [List.getElem?_set_ne e] at h1 h2
    exact k.2 i d' y h1 h2
def setManyV : List Value → Nat → List Value → List Value
  | cells, _, [] => cells
  | cells, off, d :: ds => setManyV (cells.set off d) (off + 1) ds
theorem length_setMany (ds : List DV) : ∀ cells off, (setMany cells off ds).length = cells.length := by
  induction ds with
  | nil => intro _ _; rfl
  | cons d ds ih => intro cells off; simp [setMany, ih]
theorem length_setManyV (ds : List Value) : ∀ cells off, (setManyV cells off ds).length = cells.length := by
  induction ds with
  | nil => intro _ _; rfl
  | cons d ds ih => intro cells off; simp [setManyV, ih]
theorem Pw.setMany {w : World} {F : Nat → Prop} {β : Beta} (ds : List DV) : ∀ (vs : List Value) (cs : List DV) (xs : List Value) (off : Nat), Pw w F β cs xs → Pw w F β ds vs →
    Pw w F β (setMany cs off ds) (setManyV xs off vs) := by
  induction ds with
  | nil =>
    intro vs cs xs off h k
    have : vs = [] := by have := k.1; simp at this; exact List.length_eq_zero_iff.1 this.symm
    subst this; exact h
  | cons d ds ih =>
    intro vs cs xs off h k
    cases vs with
    | nil => have := k.1; simp at this
    | cons v vs =>
      obtain ⟨k1, k2⟩ := k.tail
      exact ih vs _ _ _ (h.set k1 off) k2
theorem foldl_setManyV (off : Nat) (vs : List Value) : ∀ (k : Nat) (cells : Array Value),
    (vs.zipIdx k).foldl (fun cs (p : Value × Nat) => cs.setIfInBounds (off + p.2) p.1) cells = (setManyV cells.toList (off + k) vs).toArray := by
  induction vs with
  | nil => intro k cells; simp [setManyV]
  | cons v vs ih =>
    intro k cells
    simp only [List.zipIdx_cons, List.foldl_cons, setManyV, ih]
    congr 2
    simp
theorem cells_pw {w : World} {F : Nat → Prop} {β : Beta} {d : DV} {x : Value} {ds : List DV} (h : RV w F β d x) (hd : cellsOfDV d = some ds) : Pw w F β ds x.cells.toList := by
  have one : ∀ (y : Value), RV w F β d y → y.cells = #[y] → ds = [d] → Pw w F β ds y.cells.toList := fun y hy hc he => by
    rw [hc, he]; exact Pw.nil.cons hy
  cases h with
  | data h =>
    have ho := h.one
    have hc : x.cells = #[x] := by cases x <;> first | rfl | simp [Value.oneCell'] at ho
    have he : ds = [d] := by
      cases h <;> (simp [cellsOfDV] at hd; exact hd.symm)
    exact one x (.data h) hc he
  | agg cs xs hl h => simp [cellsOfDV] at hd; subst hd; exact ⟨by simpa [Value.cells] using hl, by simpa [Value.cells] using h⟩
  | dead => simp [cellsOfDV] at hd
  | whn => simp [cellsOfDV] at hd
  | lref _ _ _ _ b o cap h hi => exact one _ (.lref _ _ _ _ b o cap h hi) rfl (by simpa [cellsOfDV] using hd.symm)
  | ref _ _ b c h => exact one _ (.ref _ _ b c h) rfl (by simpa [cellsOfDV] using hd.symm)
  | arr _ _ b c h hl => exact one _ (.arr _ _ b c h hl) rfl (by simpa [cellsOfDV] using hd.symm)
  | arrNil _ h => exact one _ (.arrNil _ h) rfl (by simpa [cellsOfDV] using hd.symm)
  | sub _ _ _ a n h hn hl => exact one _ (.sub _ _ _ a n h hn hl) rfl (by simpa [cellsOfDV] using hd.symm)
  | tup _ xs hl h => exact one _ (.tup _ xs hl h) rfl (by simpa [cellsOfDV] using hd.symm)
  | clo _ _ _ xs ys hl hl' h h' => exact one _ (.clo _ _ _ xs ys hl hl' h h') rfl (by simpa [cellsOfDV] using hd.symm)
  | ifc _ _ _ h => exact one _ (.ifc _ _ _ h) rfl (by simpa [cellsOfDV] using hd.symm)
  | mp es b clk h hF => exact one _ (.mp es b clk h hF) rfl (by simpa [cellsOfDV] using hd.symm)
  | mo _ b c h => exact one _ (.mo _ b c h) rfl (by simpa [cellsOfDV] using hd.symm)
section
variable {P : Program} {s : Sto} {ρ : Operand → DV} {g : Bool}
theorem dfill_sound {place : Nat → Option (Nat × Nat)} {K : List DV → Prop} (parts : List (Nat × Operand)) : ∀ (cells : List DV), dfill ρ g place parts cells K →
    ∃ cs, K cs ∧ (g = true → ∀ w F β (ev : Operand → Value), (∀ x, RV w F β (ρ x) (ev x)) → ∀ xs : List Value, Pw w F β cells xs →
      ∃ ys : List Value, Pw w F β cs ys ∧ Instr.fill place xs.toArray (parts.map fun (i, x) => (i, ev x)) = some ys.toArray) := by
  induction parts with
  | nil => intro cells h; exact ⟨cells, h, fun _ w F β ev _ xs hx => ⟨xs, hx, rfl⟩⟩
  | cons p parts ih =>
    obtain ⟨i, x⟩ := p
    intro cells h
    have h : (match place i with
      | none => False
      | some pl => evg g (ρ x) fun d => (match cellsOfDV d with
        | some ds => (g = true → ds.length = pl.2 ∧ pl.1 + pl.2 ≤ cells.length) ∧ forceL (setMany cells pl.1 ds) fun cells => dfill ρ g place parts cells K
        | none => False)) := h
    split at h
    · exact h.elim
    · rename_i pl hp
      obtain ⟨off, size⟩ := pl
      simp only at h
      obtain ⟨d, h, hd⟩ := evg_sound _ h
      split at h
      · rename_i ds hds
        obtain ⟨h1, h2⟩ := h
        rw [forceL_eq] at h2
        obtain ⟨cs, k1, k2⟩ := ih _ h2
        refine ⟨cs, k1, fun hg w F β ev hρ xs hx => ?_⟩
        obtain ⟨hsz, hle⟩ := h1 hg
        have hpw := cells_pw (hd hg _ _ _ _ (hρ x)) hds
        obtain ⟨ys, g1, g2⟩ := k2 hg w F β ev hρ _ (hx.setMany ds (ev x).cells.toList cells xs off hpw)
        refine ⟨ys, g1, ?_⟩
        have hsz' : (ev x).cells.size = size := by have := hpw.1; simp at this; omega
        have hcs : xs.toArray.size = cells.length := by simpa using hx.1.symm
        have hcs' : xs.length = cells.length := hx.1.symm
        simp only [List.map_cons, Instr.fill, hp]
        rw [if_neg (by simp [hsz']; omega)]
        rw [← g2]
        congr 1
        rw [← Array.foldl_toList, Array.toList_zipIdx]
        have := foldl_setManyV off (ev x).cells.toList 0 xs.toArray
        simpa using this
      · exact h.elim
theorem run_sizeOf {t : TypeId} {i : TypeInfo} (h : P.info? t = some i) (w : World) : (sizeOf t).run P w = .ok i.size w := by
  simp [sizeOf, typeInfo, h]
theorem run_places {fs : Array Field} (h : fs.toList.all (fun f => (P.info? f.type).isSome) = true) (w : World) :
    ((fs.mapM fun f => do pure (f.offset, ← sizeOf f.type) : Sem (Array (Nat × Nat)))).run P w = .ok (fs.map fun f => (f.offset, P.cellsOf f.type)) w := by
  rw [Array.mapM_eq_mapM_toList]
  obtain ⟨l⟩ := fs
  simp only at h ⊢
  have key : ((l.mapM fun f => do pure (f.offset, ← sizeOf f.type) : Sem (List (Nat × Nat)))).run P w = .ok (l.map fun f => (f.offset, P.cellsOf f.type)) w := by
    induction l with
    | nil => rfl
    | cons f l ih =>
      simp only [List.all_cons, Bool.and_eq_true] at h
      obtain ⟨i, hi⟩ := Option.isSome_iff_exists.1 h.1
      simp only [List.mapM_cons, Sem.run_bind, run_sizeOf hi, Result.andThen_ok, Sem.run_pure, ih h.2, List.map_cons]
      simp [Program.cellsOf, hi]
  simp only [Sem.run_map, key, Result.andThen_ok]
  simp
theorem sound_build {t : TypeId} {parts : Array (Nat × Operand)} {K : DV → Prop} (h : dq P s ρ g (.build t parts) K) : ∃ d, K d ∧ (g = true → QSem P s (.build t parts) ρ d) := by
  simp only [dq] at h
  split at h
  · rename_i z pl _ hz hpl
    obtain ⟨cs, k1, k2⟩ := dfill_sound _ _ h
    rw [forceL_eq] at k1
    refine ⟨_, k1, fun hg w0 F0 β w a hs hρ => ?_⟩
    unfold zeroDV at hz
    split at hz
    · rename_i zv hzv
      split at hz
      · rename_i hall
        simp only [Option.some.injEq] at hz
        subst hz
        obtain ⟨inf, hi, hzi⟩ := Option.bind_eq_some_iff.1 hzv
        obtain ⟨ys, g1, g2⟩ := k2 hg w F0 β a.eval hρ zv.cells.toList ⟨by simp, fun i d y h1 h2 => by
          simp only [List.getElem?_map, h2, Option.map_some, Option.some.injEq] at h1
          subst h1
          exact .data (.v _ (List.all_eq_true.1 hall y (List.mem_of_getElem? h2)))⟩
        refine ⟨.agg ys.toArray, .agg _ _ g1.1 g1.2, fun o w' ho _ => ?_⟩
        unfold fldPlaces at hpl
        split at hpl
        · rename_i fs hfs
          split at hpl
          · rename_i hall'
            simp only [Option.some.injEq] at hpl
            subst hpl
            have e1 : (fun (i : Nat) => (fs.toList.map fun f => (f.offset, P.cellsOf f.type))[i]?) = fun (i : Nat) => (fs.map fun f => (f.offset, P.cellsOf f.type))[i]? := by
              funext i; rw [← Array.toList_map, Array.getElem?_toList]
            rw [e1, Array.toArray_toList] at g2
            have e2 : (parts.map fun x => (x.1, a.eval x.2)).toList = parts.toList.map fun x => (x.1, a.eval x.2) := by simp
            simp only [execOp, ho, Instr.build, zeroValue, typeInfo, Sem.run_bind, run_program, Result.andThen_ok, hi, Sem.run_pure, hzi, run_underlying hfs]
            rw [run_places hall']
            simp only [Result.andThen_ok]
            rw [e2]
            rw [g2]
            rfl
          · cases hpl
        · cases hpl
      · cases hz
    · cases hz
  · rename_i z n sz hz _ har
    rw [forceN_eq] at h
    obtain ⟨cs, k1, k2⟩ := dfill_sound _ _ h
    rw [forceL_eq] at k1
    refine ⟨_, k1, fun hg w0 F0 β w a hs hρ => ?_⟩
    unfold zeroDV at hz
    split at hz
    · rename_i zv hzv
      split at hz
      · rename_i hall
        simp only [Option.some.injEq] at hz
        subst hz
        obtain ⟨inf, hi, hzi⟩ := Option.bind_eq_some_iff.1 hzv
        obtain ⟨ys, g1, g2⟩ := k2 hg w F0 β a.eval hρ zv.cells.toList ⟨by simp, fun i d y h1 h2 => by
          simp only [List.getElem?_map, h2, Option.map_some, Option.some.injEq] at h1
          subst h1
          exact .data (.v _ (List.all_eq_true.1 hall y (List.mem_of_getElem? h2)))⟩
        refine ⟨.agg ys.toArray, .agg _ _ g1.1 g1.2, fun o w' ho _ => ?_⟩
        obtain ⟨e, inf2, q2, q3, q4⟩ := arElem_some har
        rw [Array.toArray_toList] at g2
        have e2 : (parts.map fun x => (x.1, a.eval x.2)).toList = parts.toList.map fun x => (x.1, a.eval x.2) := by simp
        simp only [execOp, ho, Instr.build, zeroValue, typeInfo, Sem.run_bind, run_program, Result.andThen_ok, hi, Sem.run_pure, hzi, run_underlying q2, run_sizeOf q3, q4]
        rw [e2, g2]
        rfl
      · cases hz
    · cases hz
  · exact h.elim
theorem sound_len {x : Operand} {t : TypeId} {K : DV → Prop} (h : dqCall P s ρ g ⟨.builtin .len, #[x], #[t]⟩ K) : ∃ d, K d ∧ (g = true → QSem P s (.call ⟨.builtin .len, #[x], #[t]⟩) ρ d) := by
  simp only [dqCall] at h
  obtain ⟨dx, h, hx⟩ := evg_sound _ h
  split at h
  · split at h
    · obtain ⟨h1, h2⟩ := h
      refine ⟨_, h2, fun hg w0 F0 β w a hs hρ => ⟨_, .data (.v _ rfl), fun o w' ho _ => ?_⟩⟩
      have ex := rv_v (hx hg _ _ _ _ (hρ x))
      simp [execOp, ho, resolve, ex, invoke, builtin, Builtin.len_, run_underlying (isStr_some (h1 hg)), goInt]
    · obtain ⟨h1, h2⟩ := h
      refine ⟨_, h2, fun hg w0 F0 β w a hs hρ => ⟨_, .data (.v _ rfl), fun o w' ho _ => ?_⟩⟩
      obtain ⟨sz, hsz⟩ := Option.isSome_iff_exists.1 (h1 hg)
      obtain ⟨e, inf, g2, g3, rfl⟩ := slElem_some hsz
      have ex := rv_v (hx hg _ _ _ _ (hρ x))
      simp [execOp, ho, resolve, ex, invoke, builtin, Builtin.len_, run_underlying g2, goInt]
    · exact h.elim
  · obtain ⟨h1, h2⟩ := h
    refine ⟨_, h2, fun hg w0 F0 β w a hs hρ => ⟨_, .data (.v _ rfl), fun o w' ho _ => ?_⟩⟩
    obtain ⟨sz, hsz⟩ := Option.isSome_iff_exists.1 (h1 hg)
    obtain ⟨e, inf, g2, g3, rfl⟩ := slElem_some hsz
    obtain ⟨ad, cap, he, _⟩ := rv_lst (hx hg _ _ _ _ (hρ x))
    simp [execOp, ho, resolve, he, invoke, builtin, Builtin.len_, run_underlying g2, goInt]
  · obtain ⟨h1, h2⟩ := h
    refine ⟨_, h2, fun hg w0 F0 β w a hs hρ => ⟨_, .data (.v _ rfl), fun o w' ho _ => ?_⟩⟩
    obtain ⟨sz, hsz⟩ := Option.isSome_iff_exists.1 (h1 hg)
    obtain ⟨e, inf, g2, g3, rfl⟩ := slElem_some hsz
    rcases rv_arr (hx hg _ _ _ _ (hρ x)) with ⟨b, c, hb, hlc, he⟩ | ⟨hb, h3, he⟩
    · simp [execOp, ho, resolve, he, invoke, builtin, Builtin.len_, run_underlying g2, goInt]
    · subst h3
      simp [execOp, ho, resolve, he, invoke, builtin, Builtin.len_, run_underlying g2, goInt]
  · obtain ⟨h1, h2⟩ := h
    refine ⟨_, h2, fun hg w0 F0 β w a hs hρ => ⟨_, .data (.v _ rfl), fun o w' ho _ => ?_⟩⟩
    obtain ⟨sz, hsz⟩ := Option.isSome_iff_exists.1 (h1 hg)
    obtain ⟨e, inf, g2, g3, rfl⟩ := slElem_some hsz
    obtain ⟨ad, n, he, _⟩ := rv_sub (hx hg _ _ _ _ (hρ x))
    simp [execOp, ho, resolve, he, invoke, builtin, Builtin.len_, run_underlying g2, goInt]
  · exact h.elim
theorem sound_min {x y : Operand} {ts : Array TypeId} {K : DV → Prop} (h : dqCall P s ρ g ⟨.builtin .min, #[x, y], ts⟩ K) : ∃ d, K d ∧ (g = true → QSem P s (.call ⟨.builtin .min, #[x, y], ts⟩) ρ d) := by
  simp only [dqCall] at h
  obtain ⟨dx, h, hx⟩ := evg_sound _ h
  obtain ⟨dy, h, hy⟩ := evg_sound _ h
  split at h
  · refine ⟨_, h, fun hg w0 F0 β w a hs hρ => ⟨_, .data (.v _ rfl), fun o w' ho _ => ?_⟩⟩
    have ex := rv_v (hx hg _ _ _ _ (hρ x))
    have ey := rv_v (hy hg _ _ _ _ (hρ y))
    simp [execOp, ho, resolve, ex, ey, invoke, builtin, Builtin.min_, Builtin.min2]
  · exact h.elim
theorem sound_max {x y : Operand} {ts : Array TypeId} {K : DV → Prop} (h : dqCall P s ρ g ⟨.builtin .max, #[x, y], ts⟩ K) : ∃ d, K d ∧ (g = true → QSem P s (.call ⟨.builtin .max, #[x, y], ts⟩) ρ d) := by
  simp only [dqCall] at h
  obtain ⟨dx, h, hx⟩ := evg_sound _ h
  obtain ⟨dy, h, hy⟩ := evg_sound _ h
  split at h
  · refine ⟨_, h, fun hg w0 F0 β w a hs hρ => ⟨_, .data (.v _ rfl), fun o w' ho _ => ?_⟩⟩
    have ex := rv_v (hx hg _ _ _ _ (hρ x))
    have ey := rv_v (hy hg _ _ _ _ (hρ y))
    simp [execOp, ho, resolve, ex, ey, invoke, builtin, Builtin.max_, Builtin.max2]
  · exact h.elim
theorem arr1 {α : Type} {xs : Array α} {x : α} (h : xs.toList = [x]) : xs = #[x] := by
  rw [← Array.toArray_toList (xs := xs), h]
theorem arr2 {α : Type} {xs : Array α} {x y : α} (h : xs.toList = [x, y]) : xs = #[x, y] := by
  rw [← Array.toArray_toList (xs := xs), h]
theorem sound_call {c : Call} {K : DV → Prop} (h : dqCall P s ρ g c K) : ∃ d, K d ∧ (g = true → QSem P s (.call c) ρ d) := by
  obtain ⟨callee, args, ts⟩ := c
  unfold dqCall at h
  split at h
  · rename_i x t h1 h2 h3
    simp only at h1 h2 h3
    rw [h1, arr1 h2, arr1 h3]
    exact sound_len (by unfold dqCall; exact h)
  · rename_i x y h1 h2
    simp only at h1 h2
    rw [h1, arr2 h2]
    exact sound_min (by unfold dqCall; exact h)
  · rename_i x y h1 h2
    simp only at h1 h2
    rw [h1, arr2 h2]
    exact sound_max (by unfold dqCall; exact h)
  · obtain ⟨d, h1, h2⟩ := h
    exact ⟨d, h2, h1⟩
theorem dq_sound (op : Op) {K : DV → Prop} (h : dq P s ρ g op K) : ∃ d, K d ∧ (g = true → QSem P s op ρ d) := by
  have dflt : (∃ d, (g = true → QSem P s op ρ d) ∧ K d) → ∃ d, K d ∧ (g = true → QSem P s op ρ d) := fun ⟨d, h1, h2⟩ => ⟨d, h2, h1⟩
  unfold dq at h
  split at h
  · exact ⟨_, h, fun _ w0 F0 β w a hs hρ => ⟨_, hρ _, fun o w' ho _ => by simp [execOp, ho]⟩⟩
  · exact ⟨_, h, fun _ w0 F0 β w a hs hρ => ⟨_, hρ _, fun o w' ho _ => by simp [execOp, ho]⟩⟩
  · exact sound_pick (by unfold dq; exact h)
  · exact sound_load (by unfold dq; exact h)
  · exact sound_nilCheck (by unfold dq; exact h)
  · exact sound_binOp (by unfold dq; exact h)
  · exact sound_unOp (by unfold dq; exact h)
  · exact sound_convert (by unfold dq; exact h)
  · exact sound_fieldAddr (by unfold dq; exact h)
  · exact sound_indexAddr (by unfold dq; exact h)
  · exact sound_index (by unfold dq; exact h)
  · exact sound_slice (by unfold dq; exact h)
  · exact sound_slice3 (by unfold dq; exact h)
  · exact sound_extract (by unfold dq; exact h)
  · exact sound_makeInterface (by unfold dq; exact h)
  · exact sound_makeFunc (by unfold dq; exact h)
  · exact sound_build (by unfold dq; exact h)
  · exact sound_call h
  · exact dflt h
end
end Go.Dl
