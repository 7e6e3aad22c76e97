/-
  The data-level logic, part 1: abstract values (DV), what they say of real values in a world (RD: immutable data; RV: a frame's values), the store of owned objects, and how all of it is kept when the world moves on.
-/
import Derived.WalkKit
import Derived.WalkSpells
import Derived.WalkLawsBesides
import Derived.Sort.Grow
import Derived.Deep.Draws

namespace Go.Dl
open Go Go.RowKit
inductive DV where
  | v (x : Value)
  | lst (sz : Nat) (es : List (List DV))
  | lref (sz : Nat) (es : List (List DV)) (i off : Nat)
  | ref (id off : Nat)
  | arr (id len : Nat)
  | sub (id off len : Nat)
  | agg (cs : List DV)
  | tup (xs : List DV)
  | clo (fn : Fn) (first captured : List DV)
  | ifc (t : TypeId) (d : DV)
  | mp (es : Array MapEntry)
  | mo (id : Nat)
  | when (b : Bool) (d : DV)
  | dead
structure DObj where
  elem : TypeId
  sz : Nat
  cells : List DV
structure Sto where
  ob : Nat → Option DObj
  nx : Nat
abbrev Beta := Nat → Option (Option (Nat × Nat))
inductive RD (w : World) (F : Nat → Prop) : DV → Value → Prop
  | v (x : Value) (h : x.oneCell' = true) : RD w F (.v x) x
  | lst (sz : Nat) (es : List (List DV)) (a : Option Addr) (b off cap : Nat) (g : Nat → Nat → Value)
      (ha : es ≠ [] → a = some ⟨b, off, none⟩) (hn : a = none → cap = 0) (hc : es.length ≤ cap) (hm : cap ≤ maxLen)
      (hsz : ∀ (i : Nat) cs, es[i]? = some cs → cs.length = sz)
      (hcell : ∀ (i : Nat) cs (j : Nat) d, es[i]? = some cs → cs[j]? = some d → w.cell? ⟨b, off + i * sz + j, none⟩ = some (g i j) ∧ F b)
      (hd : ∀ (i : Nat) cs (j : Nat) d, es[i]? = some cs → cs[j]? = some d → RD w F d (g i j)) :
      RD w F (.lst sz es) (.slice a es.length cap)
theorem RD.mono {w w' : World} {F F' : Nat → Prop} {d : DV} {x : Value} (h : RD w F d x)
    (hw : ∀ b, b < w.heap.size → F b → F' b ∧ w'.heap[b]? = w.heap[b]?) : RD w' F' d x := by
  induction h with
  | v x h => exact .v x h
  | lst sz es a b off cap g ha hn hc hm hsz hcell hd ih =>
    refine .lst sz es a b off cap g ha hn hc hm hsz (fun i cs j d h1 h2 => ?_) (fun i cs j d h1 h2 => ih i cs j d h1 h2)
    obtain ⟨h3, h4⟩ := hcell i cs j d h1 h2
    have hlt := World.block_lt_of_cell? w _ h3
    obtain ⟨h5, h6⟩ := hw b hlt h4
    refine ⟨?_, h5⟩
    rw [World.cell?_of_block (w := w) (a := ⟨b, off + i * sz + j, none⟩) h6]
    exact h3
theorem RD.one {w : World} {F : Nat → Prop} {d : DV} {x : Value} (h : RD w F d x) : x.oneCell' = true := by
  cases h with
  | v x h => exact h
  | lst => rfl
inductive RV (w : World) (F : Nat → Prop) (β : Beta) : DV → Value → Prop
  | data {d : DV} {x : Value} (h : RD w F d x) : RV w F β d x
  | lref (sz : Nat) (es : List (List DV)) (i off : Nat) (b o cap : Nat)
      (h : RD w F (.lst sz es) (.slice (some ⟨b, o, none⟩) es.length cap)) (hi : i < es.length) :
      RV w F β (.lref sz es i off) (.pointer (some ⟨b, o + i * sz + off, none⟩))
  | ref (id off b c : Nat) (h : β id = some (some (b, c))) : RV w F β (.ref id off) (.pointer (some ⟨b, off, none⟩))
  | arr (id len b c : Nat) (h : β id = some (some (b, c))) (hl : len ≤ c) : RV w F β (.arr id len) (.slice (some ⟨b, 0, none⟩) len c)
  | arrNil (id : Nat) (h : β id = some none) : RV w F β (.arr id 0) (.slice none 0 0)
  | sub (id off len : Nat) (a : Option Addr) (n : Nat) (h : 0 < len → ∃ b c, β id = some (some (b, c)) ∧ a = some ⟨b, off, none⟩) (hn : a = none → n = 0) (hl : len ≤ n) : RV w F β (.sub id off len) (.slice a len n)
  | agg (ds : List DV) (xs : List Value) (hl : ds.length = xs.length)
      (h : ∀ (i : Nat) d x, ds[i]? = some d → xs[i]? = some x → RV w F β d x) : RV w F β (.agg ds) (.agg xs.toArray)
  | tup (ds : List DV) (xs : List Value) (hl : ds.length = xs.length)
      (h : ∀ (i : Nat) d x, ds[i]? = some d → xs[i]? = some x → RV w F β d x) : RV w F β (.tup ds) (.tuple xs.toArray)
  | clo (fn : Fn) (ds es : List DV) (xs ys : List Value) (hl : ds.length = xs.length) (hl' : es.length = ys.length)
      (h : ∀ (i : Nat) d x, ds[i]? = some d → xs[i]? = some x → RV w F β d x)
      (h' : ∀ (i : Nat) d x, es[i]? = some d → ys[i]? = some x → RV w F β d x) : RV w F β (.clo fn ds es) (.func fn xs.toArray ys.toArray)
  | ifc (t : TypeId) (d : DV) (x : Value) (h : RV w F β d x) : RV w F β (.ifc t d) (.iface t x)
  | mp (es : Array MapEntry) (b clk : Nat) (h : w.heap[b]? = some (.map es clk)) (hF : F b) : RV w F β (.mp es) (.map (some b))
  | mo (id b c : Nat) (h : β id = some (some (b, c))) : RV w F β (.mo id) (.map (some b))
  | whn (b : Bool) (d : DV) (x : Value) (h : b = true → RV w F β d x) (h0 : b = false → x = undef) : RV w F β (.when b d) x
  | dead (x : Value) : RV w F β .dead x
theorem RV.mono {w w' : World} {F F' : Nat → Prop} {β β' : Beta} {d : DV} {x : Value} (h : RV w F β d x)
    (hβ : ∀ i p, β i = some p → β' i = some p)
    (hw : ∀ b, b < w.heap.size → F b → F' b ∧ w'.heap[b]? = w.heap[b]?) : RV w' F' β' d x := by
  induction h with
  | data h => exact .data (h.mono hw)
  | lref sz es i off b o cap h hi => exact .lref sz es i off b o cap (h.mono hw) hi
  | ref id off b c h => exact .ref id off b c (hβ _ _ h)
  | arr id len b c h hl => exact .arr id len b c (hβ _ _ h) hl
  | arrNil id h => exact .arrNil id (hβ _ _ h)
  | sub id off len a n h hn hl => exact .sub id off len a n (fun h0 => (by obtain ⟨b, c, h1, h2⟩ := h h0; exact ⟨b, c, hβ _ _ h1, h2⟩)) hn hl
  | agg ds xs hl h ih => exact .agg ds xs hl ih
  | tup ds xs hl h ih => exact .tup ds xs hl ih
  | clo fn ds es xs ys hl hl' h h' ih ih' => exact .clo fn ds es xs ys hl hl' ih ih'
  | ifc t d x h ih => exact .ifc t d x ih
  | mp es b clk h hF =>
    obtain ⟨h1, h2⟩ := hw b (Array.getElem?_eq_some_iff.1 h).1 hF
    exact .mp es b clk (h2.trans h) h1
  | mo id b c h => exact .mo id b c (hβ _ _ h)
  | whn b d x h h0 ih => exact .whn b d x ih h0
  | dead x => exact .dead x
def Un (w0 : World) (s : Sto) (β : Beta) (b : Nat) : Prop :=
  b < w0.heap.size ∨ (w0.heap.size ≤ b ∧ ∀ i c, (s.ob i).isSome = true → β i ≠ some (some (b, c)))
def Fr (w0 : World) (F0 : Nat → Prop) (s : Sto) (β : Beta) (b : Nat) : Prop := F0 b ∧ Un w0 s β b
def MAPT : TypeId := 4294967295
def natOf : Value → Nat
  | .int _ n => n.toNat
  | _ => 0
def entsOf : List Value → List MapEntry
  | k :: v :: b :: r => ⟨k, v, natOf b⟩ :: entsOf r
  | _ => []
def mapOf : List Value → Obj
  | c :: r => .map (entsOf r).toArray (natOf c)
  | [] => .map #[] 0
def blkM (cur : Array Value) (e : TypeId) : List Value → Obj
  | .agg xs :: _ => mapOf xs.toList
  | _ => .cells cur e (0, 0)
def blk (cur : Array Value) (e : TypeId) : Obj := bif Nat.beq e MAPT then blkM cur e cur.toList else .cells cur e (0, 0)
theorem blk_cells {e : TypeId} (h : Nat.beq e MAPT = false) (cur : Array Value) : blk cur e = .cells cur e (0, 0) := by unfold blk; rw [h]; rfl
theorem mapOf_is (l : List Value) : ∃ es clk, mapOf l = .map es clk := by
  unfold mapOf
  split
  · exact ⟨_, _, rfl⟩
  · exact ⟨_, _, rfl⟩
theorem blk_is (cur : Array Value) (e : TypeId) : blk cur e = .cells cur e (0, 0) ∨ ∃ es clk, blk cur e = .map es clk := by
  unfold blk
  cases Nat.beq e MAPT with
  | true =>
    unfold blkM
    simp only [cond_true]
    split
    · exact .inr (mapOf_is _)
    · exact .inl rfl
  | false => exact .inl rfl
theorem blk_one {cur : Array Value} {y : Value} (hy : cur[0]? = some y) (h1 : y.oneCell' = true) (e : TypeId) : blk cur e = .cells cur e (0, 0) := by
  unfold blk
  cases Nat.beq e MAPT with
  | true =>
    unfold blkM
    simp only [cond_true]
    split
    · rename_i xs r hx
      have hy2 : cur.toList[0]? = some y := by simpa using hy
      rw [hx] at hy2
      cases hy2; cases h1
    · rfl
  | false => rfl
def cellsO (e : TypeId) (K : Prop) : Prop := bif Nat.beq e MAPT then False else K
theorem cellsO_is {e : TypeId} {K : Prop} (h : cellsO e K) : Nat.beq e MAPT = false ∧ K := by
  unfold cellsO at h
  cases hb : Nat.beq e MAPT with
  | true => rw [hb] at h; exact h.elim
  | false => rw [hb] at h; exact ⟨rfl, h⟩
def ORep (w0 w : World) (F : Nat → Prop) (β : Beta) (i : Nat) (o : DObj) : Prop :=
  (β i = some none ∧ o.cells = []) ∨
  ∃ b c cur, β i = some (some (b, c)) ∧ w0.heap.size ≤ b ∧ w.heap[b]? = some (blk cur o.elem) ∧ cur.size = c * o.sz ∧ c ≤ maxLen ∧
    o.cells.length ≤ cur.size ∧ ∀ (j : Nat) d, o.cells[j]? = some d → ∃ x, cur[j]? = some x ∧ RV w F β d x
structure GlobS where
  ok : World → Prop
  mono : ∀ {w0 w : World}, RowKit.Below w0.heap.size w0 w → ok w0 → ok w
  dr : Bool
def GlobS.none : GlobS := ⟨fun _ => True, fun _ h => h, false⟩
def Drs [Inhabited GlobS] : Bool := (default : GlobS).dr
structure BelowD [Inhabited GlobS] (B : Nat) (w w' : World) : Prop where
  os : w'.os = w.os
  tape : w'.tape = w.tape
  output : w'.output = w.output
  size : w.heap.size ≤ w'.heap.size
  block : ∀ k, k < B → w'.heap[k]? = w.heap[k]?
  drawn : Drs = true → w.drawn ≤ w'.drawn
section
variable [Inhabited GlobS]
theorem BelowD.kit {B : Nat} {w w' : World} (h : BelowD B w w') : RowKit.Below B w w' := ⟨h.os, h.tape, h.output, h.size, h.block⟩
theorem BelowD.of {B : Nat} {w w' : World} (h : RowKit.Below B w w') (hd : Drs = true → w.drawn ≤ w'.drawn) : BelowD B w w' := ⟨h.os, h.tape, h.output, h.size, h.block, hd⟩
theorem BelowD.refl (B : Nat) (w : World) : BelowD B w w := ⟨rfl, rfl, rfl, Nat.le_refl _, fun _ _ => rfl, fun _ => Nat.le_refl _⟩
theorem BelowD.trans {B : Nat} {a b c : World} (h : BelowD B a b) (k : BelowD B b c) : BelowD B a c := .of (h.kit.trans k.kit) fun e => Nat.le_trans (h.drawn e) (k.drawn e)
theorem BelowD.mono {B B' : Nat} {w w' : World} (h : BelowD B w w') (hB : B' ≤ B) : BelowD B' w w' := .of (h.kit.mono hB) h.drawn
theorem BelowD.alloc {B : Nat} {a w : World} (h : BelowD B a w) (hB : B ≤ w.heap.size) (o : Obj) : BelowD B a (w.alloc o) := .of (h.kit.alloc hB o) h.drawn
theorem BelowD.setCell {B : Nat} {a w : World} (h : BelowD B a w) {p : Addr} (hp : B ≤ p.block) (u : Value) : BelowD B a (w.setCell p u) := .of (h.kit.setCell hp u) h.drawn
theorem BelowD.frame {W w' : World} (h : BelowD W.heap.size W w') (may : MemPlace → Prop) : W.keptBut w' may := h.kit.frame may
end
def Gok [Inhabited GlobS] (w : World) : Prop := (default : GlobS).ok w
theorem Gok.mono [Inhabited GlobS] {w0 w : World} (hb : BelowD w0.heap.size w0 w) (h : Gok w0) : Gok w := GlobS.mono _ hb.kit h
structure SRel [Inhabited GlobS] (w0 : World) (F0 : Nat → Prop) (s : Sto) (β : Beta) (w : World) : Prop where
  below : BelowD w0.heap.size w0 w
  obs : ∀ i o, s.ob i = some o → ORep w0 w (Fr w0 F0 s β) β i o
  inj : ∀ i j b c c', (s.ob i).isSome = true → (s.ob j).isSome = true → β i = some (some (b, c)) → β j = some (some (b, c')) → i = j
  nx : ∀ i, s.nx ≤ i → β i = none ∧ s.ob i = none
  up : ∀ b, w.heap.size ≤ b → F0 b
  own : ∀ i b c, (s.ob i).isSome = true → β i = some (some (b, c)) → F0 b
  gl : Gok w0
theorem SRel.gok [Inhabited GlobS] {w0 : World} {F0 : Nat → Prop} {s : Sto} {β : Beta} {w : World} (h : SRel w0 F0 s β w) : Gok w := h.gl.mono h.below
structure Ext (n : Nat) (w0 : World) (X : Nat → Prop) (s : Sto) (β : Beta) (w : World) (s' : Sto) (β' : Beta) (w' : World) : Prop where
  grow : ∀ i, i < n → ∀ p, β i = some p → β' i = some p
  size : w.heap.size ≤ w'.heap.size
  fr : ∀ b, b < w.heap.size → ¬ X b → Un w0 s β b → Un w0 s' β' b ∧ w'.heap[b]? = w.heap[b]?
def nX : Nat → Prop := fun _ => False
theorem Ext.refl {n : Nat} {w0 : World} {X : Nat → Prop} {s : Sto} {β : Beta} {w : World} : Ext n w0 X s β w s β w :=
  ⟨fun _ _ _ h => h, Nat.le_refl _, fun _ _ _ h => ⟨h, rfl⟩⟩
theorem Ext.trans {n : Nat} {w0 : World} {X : Nat → Prop} {s s1 s2 : Sto} {β β1 β2 : Beta} {w w1 w2 : World}
    (h : Ext n w0 X s β w s1 β1 w1) (k : Ext n w0 X s1 β1 w1 s2 β2 w2) : Ext n w0 X s β w s2 β2 w2 :=
  ⟨fun i hi p hp => k.grow i hi p (h.grow i hi p hp), Nat.le_trans h.size k.size, fun b hb hx hF => by
    obtain ⟨h1, h2⟩ := h.fr b hb hx hF
    obtain ⟨h3, h4⟩ := k.fr b (Nat.lt_of_lt_of_le hb h.size) hx h1
    exact ⟨h3, h4.trans h2⟩⟩
theorem Ext.mono {n m : Nat} {w0 : World} {X : Nat → Prop} {s s' : Sto} {β β' : Beta} {w w' : World}
    (h : Ext n w0 X s β w s' β' w') (hm : m ≤ n) : Ext m w0 X s β w s' β' w' :=
  ⟨fun i hi p hp => h.grow i (by omega) p hp, h.size, h.fr⟩
theorem Ext.toX {n : Nat} {w0 : World} {X : Nat → Prop} {s s' : Sto} {β β' : Beta} {w w' : World}
    (h : Ext n w0 nX s β w s' β' w') : Ext n w0 X s β w s' β' w' := ⟨h.grow, h.size, fun b hb _ hu => h.fr b hb (fun h => h) hu⟩
theorem Ext.fr' {n : Nat} {w0 : World} {X F0 : Nat → Prop} {s s' : Sto} {β β' : Beta} {w w' : World} (hX : ∀ b, F0 b → ¬ X b) (h : Ext n w0 X s β w s' β' w') :
    ∀ b, b < w.heap.size → Fr w0 F0 s β b → Fr w0 F0 s' β' b ∧ w'.heap[b]? = w.heap[b]? := fun b hb hF => by
  obtain ⟨h1, h2⟩ := h.fr b hb (hX b hF.1) hF.2
  exact ⟨⟨hF.1, h1⟩, h2⟩
theorem RV.extX [Inhabited GlobS] {w0 : World} {X F0 : Nat → Prop} {s s' : Sto} {β β' : Beta} {w w' : World} (hs : SRel w0 F0 s β w) (hX : ∀ b, F0 b → ¬ X b)
    {n : Nat} (hn : s.nx ≤ n) (h : Ext n w0 X s β w s' β' w') {d : DV} {x : Value} (hr : RV w (Fr w0 F0 s β) β d x) : RV w' (Fr w0 F0 s' β') β' d x := by
  refine hr.mono (fun i p hp => h.grow i ?_ p hp) (h.fr' hX)
  rcases Nat.lt_or_ge i s.nx with hlt | hge
  · omega
  · rw [(hs.nx i hge).1] at hp; cases hp
theorem RV.ext [Inhabited GlobS] {w0 : World} {F0 : Nat → Prop} {s s' : Sto} {β β' : Beta} {w w' : World} (hs : SRel w0 F0 s β w)
    {n : Nat} (hn : s.nx ≤ n) (h : Ext n w0 nX s β w s' β' w') {d : DV} {x : Value} (hr : RV w (Fr w0 F0 s β) β d x) : RV w' (Fr w0 F0 s' β') β' d x :=
  RV.extX hs (fun _ _ h => h) hn h hr
theorem SRel.below' [Inhabited GlobS] {w0 : World} {F0 : Nat → Prop} {s : Sto} {β : Beta} {w w' : World} (h : SRel w0 F0 s β w) (hb : BelowD w.heap.size w w') :
    SRel w0 F0 s β w' ∧ ∀ n, Ext n w0 nX s β w s β w' := by
  have hext : ∀ n, Ext n w0 nX s β w s β w' := fun n => ⟨fun _ _ _ h => h, hb.size, fun b hlt _ hF => ⟨hF, hb.block b hlt⟩⟩
  refine ⟨⟨h.below.trans (hb.mono h.below.size), fun i o ho => ?_, h.inj, h.nx, fun b hb' => h.up b (Nat.le_trans hb.size hb'), h.own, h.gl⟩, hext⟩
  rcases h.obs i o ho with h1 | ⟨b, c, cur, h1, h2, h3, h4, h5, h6, h7⟩
  · exact .inl h1
  · refine .inr ⟨b, c, cur, h1, h2, ?_, h4, h5, h6, fun j d hj => ?_⟩
    · rw [hb.block b (Array.getElem?_eq_some_iff.1 h3).1]; exact h3
    · obtain ⟨x, hx, hr⟩ := h7 j d hj
      exact ⟨x, hx, RV.ext h (Nat.le_refl _) (hext _) hr⟩
def upd {α : Type} (f : Nat → α) (i : Nat) (x : α) : Nat → α := fun j => bif Nat.beq j i then x else f j
@[simp] theorem upd_same {α : Type} (f : Nat → α) (i : Nat) (x : α) : upd f i x i = x := by
  have h : Nat.beq i i = true := Nat.beq_refl i
  unfold upd; rw [h]; rfl
theorem upd_ne {α : Type} (f : Nat → α) (i : Nat) (x : α) {j : Nat} (h : j ≠ i) : upd f i x j = f j := by
  have h : Nat.beq j i = false := by
    cases e : Nat.beq j i with
    | true => exact absurd (Nat.eq_of_beq_eq_true e) h
    | false => rfl
  unfold upd; rw [h]; rfl
theorem SRel.alloc [Inhabited GlobS] {w0 : World} {F0 : Nat → Prop} {s : Sto} {β : Beta} {w : World} (h : SRel w0 F0 s β w) (id : Nat) (hid : β id = none) (hob : s.ob id = none) (nx' : Nat) (hnx : s.nx ≤ nx') (hlt : id < nx')
    (o : DObj) (cur : Array Value) (c : Nat) (hcs : cur.size = c * o.sz) (hcm : c ≤ maxLen) (hlen : o.cells.length ≤ cur.size)
    (hcur : ∀ (j : Nat) d, o.cells[j]? = some d → ∃ x, cur[j]? = some x ∧ RV w (Fr w0 F0 s β) β d x) :
    SRel w0 F0 ⟨upd s.ob id (some o), nx'⟩ (upd β id (some (some (w.heap.size, c)))) (w.alloc (blk cur o.elem)) ∧
    ∀ n, Ext n w0 nX s β w ⟨upd s.ob id (some o), nx'⟩ (upd β id (some (some (w.heap.size, c)))) (w.alloc (blk cur o.elem)) := by
  have hgrow : ∀ i p, β i = some p → upd β id (some (some (w.heap.size, c))) i = some p := fun i p hp => by
    by_cases e : i = id
    · subst e; rw [hid] at hp; cases hp
    · rw [upd_ne _ _ _ e]; exact hp
  have hext : ∀ n, Ext n w0 nX s β w ⟨upd s.ob id (some o), nx'⟩ (upd β id (some (some (w.heap.size, c)))) (w.alloc (blk cur o.elem)) := fun n =>
    ⟨fun i _ p hp => hgrow i p hp, by simp, fun b hb _ hF => by
      refine ⟨?_, heap_alloc_old w _ hb⟩
      rcases hF with hF | ⟨h1, h2⟩
      · exact .inl hF
      · refine .inr ⟨h1, fun i c' hi => ?_⟩
        by_cases e : i = id
        · subst e; simp; intro e; omega
        · simp only [upd_ne _ _ _ e] at hi ⊢; exact h2 i c' hi⟩
  refine ⟨⟨h.below.alloc h.below.size _, fun i oi hi => ?_, fun i j b c1 c2 hi hj hbi hbj => ?_, fun i hi => ?_, fun b hb => h.up b (by simp at hb; omega), fun i b c' hi hb => ?_, h.gl⟩, hext⟩
  · by_cases e : i = id
    · subst e
      simp only [upd_same, Option.some.injEq] at hi
      subst hi
      refine .inr ⟨w.heap.size, c, cur, by simp, h.below.size, heap_alloc_new w _, hcs, hcm, hlen, fun j d hj => ?_⟩
      obtain ⟨x, hx, hr⟩ := hcur j d hj
      exact ⟨x, hx, RV.ext h (Nat.le_refl _) (hext _) hr⟩
    · simp only [upd_ne _ _ _ e] at hi
      rcases h.obs i oi hi with h1 | ⟨b, c', cur', h1, h2, h3, h4, h5, h6, h7⟩
      · exact .inl ⟨hgrow _ _ h1.1, h1.2⟩
      · refine .inr ⟨b, c', cur', hgrow _ _ h1, h2, ?_, h4, h5, h6, fun j d hj => ?_⟩
        · rw [heap_alloc_old w _ (Array.getElem?_eq_some_iff.1 h3).1]; exact h3
        · obtain ⟨x, hx, hr⟩ := h7 j d hj
          exact ⟨x, hx, RV.ext h (Nat.le_refl _) (hext _) hr⟩
  · have hblk : ∀ i b c', (s.ob i).isSome = true → β i = some (some (b, c')) → b < w.heap.size := fun i b c' hi hb => by
      obtain ⟨oi, hoi⟩ := Option.isSome_iff_exists.1 hi
      rcases h.obs i oi hoi with h1 | ⟨b', c'', cur', h1, h2, h3, _⟩
      · rw [h1.1] at hb; cases hb
      · rw [h1] at hb; simp only [Option.some.injEq, Prod.mk.injEq] at hb
        rw [← hb.1]; exact (Array.getElem?_eq_some_iff.1 h3).1
    by_cases e : i = id
    · by_cases e' : j = id
      · rw [e, e']
      · subst e
        simp only [upd_same, upd_ne _ _ _ e', Option.some.injEq, Prod.mk.injEq] at hi hj hbi hbj
        have := hblk j b c2 hj hbj
        omega
    · by_cases e' : j = id
      · subst e'
        simp only [upd_same, upd_ne _ _ _ e, Option.some.injEq, Prod.mk.injEq] at hi hj hbi hbj
        have := hblk i b c1 hi hbi
        omega
      · simp only [upd_ne _ _ _ e, upd_ne _ _ _ e'] at hi hj hbi hbj
        exact h.inj i j b c1 c2 hi hj hbi hbj
  · have hne : i ≠ id := by have : nx' ≤ i := hi; omega
    have := h.nx i (Nat.le_trans hnx hi)
    simp only [upd_ne _ _ _ hne]; exact this
  · by_cases e : i = id
    · subst e
      simp only [upd_same, Option.some.injEq, Prod.mk.injEq] at hb
      exact h.up b (by omega)
    · simp only [upd_ne _ _ _ e] at hi hb
      exact h.own i b c' hi hb
theorem SRel.store1 [Inhabited GlobS] {w0 : World} {F0 : Nat → Prop} {s : Sto} {β : Beta} {w : World} (h : SRel w0 F0 s β w) (id : Nat) (o : DObj) (hob : s.ob id = some o) (hm : Nat.beq o.elem MAPT = false)
    (b c : Nat) (hb : β id = some (some (b, c))) (off : Nat) (hoff : off < o.cells.length) (d : DV) (x : Value) (hx : RV w (Fr w0 F0 s β) β d x) :
    (w.cell? ⟨b, off, none⟩).isSome = true ∧ w.frozen? ⟨b, off, none⟩ = false ∧
    SRel w0 F0 ⟨upd s.ob id (some { o with cells := o.cells.set off d }), s.nx⟩ β (w.setCell ⟨b, off, none⟩ x) ∧
    ∀ n, Ext n w0 nX s β w ⟨upd s.ob id (some { o with cells := o.cells.set off d }), s.nx⟩ β (w.setCell ⟨b, off, none⟩ x) := by
  rcases h.obs id o hob with h2 | ⟨b', c', cur, g1, g2, g3, g4, g5, g6, g7⟩
  · rw [h2.1] at hb; cases hb
  rw [g1] at hb
  simp only [Option.some.injEq, Prod.mk.injEq] at hb
  obtain ⟨rfl, rfl⟩ := hb
  rw [blk_cells hm] at g3
  have hblt : b' < w.heap.size := (Array.getElem?_eq_some_iff.1 g3).1
  have hsome : ∀ i, ((upd s.ob id (some { o with cells := o.cells.set off d })) i).isSome = (s.ob i).isSome := fun i => by
    by_cases e : i = id
    · subst e; simp [hob]
    · rw [upd_ne _ _ _ e]
  have hfr : ∀ b2, Un w0 ⟨upd s.ob id (some { o with cells := o.cells.set off d }), s.nx⟩ β b2 ↔ Un w0 s β b2 := fun b2 => by
    simp only [Un, hsome]
  have hnF : ¬ Un w0 s β b' := fun hF => by
    rcases hF with hF | hF
    · omega
    · exact hF.2 id c' (by simp [hob]) g1
  have hext : ∀ n, Ext n w0 nX s β w ⟨upd s.ob id (some { o with cells := o.cells.set off d }), s.nx⟩ β (w.setCell ⟨b', off, none⟩ x) := fun n =>
    ⟨fun _ _ _ hp => hp, by simp [World.setCell], fun b2 hb2 _ hF => ⟨(hfr b2).2 hF, RowKit.Below.heap_setCell _ _ _ _ (fun e => hnF (by have e' : b2 = b' := e; rw [← e']; exact hF))⟩⟩
  refine ⟨?_, ?_, ⟨h.below.setCell g2 _, fun i oi hi => ?_, fun i j b2 c1 c2 hi hj => h.inj i j b2 c1 c2 (by rw [← hsome]; exact hi) (by rw [← hsome]; exact hj), fun i hi => ?_, fun b hb => h.up b (by simpa [World.setCell] using hb), fun i b2 c2 hi hb2 => h.own i b2 c2 (by rw [← hsome]; exact hi) hb2, h.gl⟩, hext⟩
  · simp only [World.cell?, g3, Option.isSome_none, Bool.false_eq_true, if_false]
    simp only [Option.isSome_iff_exists]
    exact ⟨_, Array.getElem?_eq_getElem (by omega)⟩
  · simp [World.frozen?, g3]
  · by_cases e : i = id
    · subst e
      simp only [upd_same, Option.some.injEq] at hi
      subst hi
      refine .inr ⟨b', c', cur.setIfInBounds off x, g1, g2, ?_, by simpa using g4, g5, by simpa using g6, fun j dj hj => ?_⟩
      · show _ = some (blk _ o.elem)
        rw [blk_cells hm]
        simp only [World.setCell, Array.getElem?_modify]; simp [g3]
      · by_cases ej : off = j
        · subst ej
          simp only [List.getElem?_set_self hoff, Option.some.injEq] at hj
          subst hj
          exact ⟨x, by rw [Array.getElem?_setIfInBounds_self_of_lt (by omega)], RV.ext h (Nat.le_refl _) (hext _) hx⟩
        · simp only [List.getElem?_set_ne ej] at hj
          obtain ⟨y, hy, hr⟩ := g7 j dj hj
          exact ⟨y, by rw [Array.getElem?_setIfInBounds_ne ej]; exact hy, RV.ext h (Nat.le_refl _) (hext _) hr⟩
    · simp only [upd_ne _ _ _ e] at hi
      rcases h.obs i oi hi with k1 | ⟨b2, c2, cur2, k1, k2, k3, k4, k5, k6, k7⟩
      · exact .inl k1
      · refine .inr ⟨b2, c2, cur2, k1, k2, ?_, k4, k5, k6, fun j dj hj => ?_⟩
        · rw [RowKit.Below.heap_setCell _ _ _ _ (fun e2 => e (h.inj i id b2 c2 c' (by simp [hi]) (by simp [hob]) k1 (by have e3 : b2 = b' := e2; rw [g1, e3])))]
          exact k3
        · obtain ⟨y, hy, hr⟩ := k7 j dj hj
          exact ⟨y, hy, RV.ext h (Nat.le_refl _) (hext _) hr⟩
  · have hne : i ≠ id := fun e => by subst e; have := (h.nx i hi).2; rw [hob] at this; cases this
    rw [show (Sto.mk (upd s.ob id (some { o with cells := o.cells.set off d })) s.nx).ob i = s.ob i from upd_ne _ _ _ hne]
    exact h.nx i hi
theorem SRel.drop [Inhabited GlobS] {w0 : World} {F0 : Nat → Prop} {s : Sto} {β : Beta} {w : World} (h : SRel w0 F0 s β w) (id : Nat) :
    SRel w0 F0 ⟨upd s.ob id none, s.nx⟩ β w ∧ ∀ n, Ext n w0 nX s β w ⟨upd s.ob id none, s.nx⟩ β w := by
  have hsome : ∀ i, ((upd s.ob id none) i).isSome = true → (s.ob i).isSome = true := fun i => by
    by_cases e : i = id
    · subst e; simp
    · rw [upd_ne _ _ _ e]; exact fun h => h
  have hext : ∀ n, Ext n w0 nX s β w ⟨upd s.ob id none, s.nx⟩ β w := fun n =>
    ⟨fun _ _ _ hp => hp, Nat.le_refl _, fun b hb _ hF => ⟨by
      rcases hF with hF | hF
      · exact .inl hF
      · exact .inr ⟨hF.1, fun i c hi => hF.2 i c (hsome i hi)⟩, rfl⟩⟩
  refine ⟨⟨h.below, fun i oi hi => ?_, fun i j b c1 c2 hi hj => h.inj i j b c1 c2 (hsome i hi) (hsome j hj), fun i hi => ?_, h.up, fun i b c hi hb => h.own i b c (hsome i hi) hb, h.gl⟩, hext⟩
  · have hi' : s.ob i = some oi := by
      by_cases e : i = id
      · subst e; simp at hi
      · simpa [upd_ne _ _ _ e] using hi
    rcases h.obs i oi hi' with k1 | ⟨b2, c2, cur2, k1, k2, k3, k4, k5, k6, k7⟩
    · exact .inl k1
    · exact .inr ⟨b2, c2, cur2, k1, k2, k3, k4, k5, k6, fun j dj hj => by
        obtain ⟨y, hy, hr⟩ := k7 j dj hj
        exact ⟨y, hy, RV.ext h (Nat.le_refl _) (hext _) hr⟩⟩
  · have := h.nx i hi
    refine ⟨this.1, ?_⟩
    by_cases e : i = id
    · subst e; simp
    · rw [show (Sto.mk (upd s.ob id none) s.nx).ob i = s.ob i from upd_ne _ _ _ e]; exact this.2
end Go.Dl


