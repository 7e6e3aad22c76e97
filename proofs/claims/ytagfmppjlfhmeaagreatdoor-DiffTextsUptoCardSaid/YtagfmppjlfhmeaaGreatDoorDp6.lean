/-
  The data-level logic, part 6: operations that make or write owned objects ('de'), and their soundness.
-/
import Derived.Test.YtagfmppjlfhmeaaGreatDoorDp1
import Derived.Laws.MakeOwn
import Derived.WalkKit
import Derived.RangeFuncIn
import Derived.RangeFuncRecord
import Derived.RangeFuncCalls
import Derived.LoopNIn
import Derived.Deep.LoopGhost
import Derived.Deep.Quiet
import Derived.OrdersHeld
import Derived.ScopeJumps

namespace Go.Dl
open Go Go.RowKit
def DV.one : DV → Bool
  | .v _ | .lst .. | .lref .. | .ref .. | .arr .. | .sub .. | .clo .. | .ifc .. | .mo .. => true
  | _ => false
theorem rv_one {w : World} {F : Nat → Prop} {β : Beta} {d : DV} {x : Value} (h : RV w F β d x) (hd : d.one = true) : x.oneCell' = true := by
  cases h with
  | data h => exact h.one
  | agg | tup | dead => cases hd
  | whn => cases hd
  | _ => rfl
theorem SRel.retake [Inhabited GlobS] {w0 : World} {F0 : Nat → Prop} {s : Sto} {β : Beta} {w : World} (h : SRel w0 F0 s β w) (id : Nat) (o : DObj) (hob : s.ob id = some o)
    (b c : Nat) (hb : β id = some (some (b, c))) (id' nx' : Nat) (hid : β id' = none) (hob' : s.ob id' = none) (hnx : s.nx ≤ nx') (hlt : id' < nx')
    (w' : World) (cur' : Array Value) (o' : DObj) (hel : o'.sz = o.sz) (hbel : BelowD b w w') (hoth : ∀ k, k ≠ b → w'.heap[k]? = w.heap[k]?)
    (hnew : w'.heap[b]? = some (blk cur' o'.elem)) (hsz : cur'.size = c * o.sz) (hlen : o'.cells.length ≤ cur'.size)
    (hcur : ∀ (j : Nat) d, o'.cells[j]? = some d → ∃ x, cur'[j]? = some x ∧ RV w (Fr w0 F0 s β) β d x) :
    SRel w0 F0 ⟨upd (upd s.ob id none) id' (some o'), nx'⟩ (upd β id' (some (some (b, c)))) w' ∧
    ∀ n, Ext n w0 nX s β w ⟨upd (upd s.ob id none) id' (some o'), nx'⟩ (upd β id' (some (some (b, c)))) w' := by
  have hne : id ≠ id' := fun e => by subst e; rw [hid] at hb; cases hb
  rcases h.obs id o hob with h2 | ⟨b', c', cur, g1, g2, g3, g4, g5, g6, g7⟩
  · rw [h2.1] at hb; cases hb
  rw [g1] at hb
  simp only [Option.some.injEq, Prod.mk.injEq] at hb
  obtain ⟨rfl, rfl⟩ := hb
  have hgrow : ∀ i p, β i = some p → upd β id' (some (some (b', c'))) i = some p := fun i p hp => by
    by_cases e : i = id'
    · subst e; rw [hid] at hp; cases hp
    · rw [upd_ne _ _ _ e]; exact hp
  -- an object of the new store other than id' is an object of the old one other than id
  have hold : ∀ i, i ≠ id' → ((upd (upd s.ob id none) id' (some o')) i).isSome = true → i ≠ id ∧ (s.ob i).isSome = true ∧ (upd (upd s.ob id none) id' (some o')) i = s.ob i := fun i e hi => by
    rw [upd_ne _ _ _ e] at hi ⊢
    by_cases e2 : i = id
    · subst e2; simp at hi
    · rw [upd_ne _ _ _ e2] at hi ⊢; exact ⟨e2, hi, rfl⟩
  have hnF : ¬ Un w0 s β b' := fun hF => by
    rcases hF with hF | hF
    · omega
    · exact hF.2 id c' (by simp [hob]) g1
  have hext : ∀ n, Ext n w0 nX s β w ⟨upd (upd s.ob id none) id' (some o'), nx'⟩ (upd β id' (some (some (b', c')))) w' := fun n =>
    ⟨fun i _ p hp => hgrow i p hp, hbel.size, fun b2 hb2 _ hF => by
      have hne2 : b2 ≠ b' := fun e => hnF (by rw [← e]; exact hF)
      refine ⟨?_, hoth b2 hne2⟩
      rcases hF with hF | ⟨k1, k2⟩
      · exact .inl hF
      · refine .inr ⟨k1, fun i c2 hi => ?_⟩
        by_cases e : i = id'
        · subst e; simp; intro e; exact absurd e.symm hne2
        · obtain ⟨_, hi2, _⟩ := hold i e hi
          rw [upd_ne _ _ _ e]; exact k2 i c2 hi2⟩
  refine ⟨⟨h.below.trans (hbel.mono g2), fun i oi hi => ?_, fun i j b2 c1 c2 hi hj hbi hbj => ?_, fun i hi => ?_, fun b2 hb2 => h.up b2 (Nat.le_trans hbel.size hb2), fun i b2 c2 hi hb2 => ?_, h.gl⟩, hext⟩
  · by_cases e : i = id'
    · subst e
      simp only [upd_same, Option.some.injEq] at hi
      subst hi
      refine .inr ⟨b', c', cur', by simp, g2, hnew, by rw [hsz, hel], g5, hlen, fun j d hj => ?_⟩
      obtain ⟨x, hx, hr⟩ := hcur j d hj
      exact ⟨x, hx, RV.ext h (Nat.le_refl _) (hext _) hr⟩
    · have hi : upd (upd s.ob id none) id' (some o') i = some oi := hi
      obtain ⟨e2, hi2, hi3⟩ := hold i e (by rw [hi]; rfl)
      rw [hi3] at hi
      rcases h.obs i oi hi with k1 | ⟨b2, c2, cur2, k1, k2, k3, k4, k5, k6, k7⟩
      · exact .inl ⟨hgrow _ _ k1.1, k1.2⟩
      · refine .inr ⟨b2, c2, cur2, hgrow _ _ k1, k2, ?_, k4, k5, k6, fun j d hj => ?_⟩
        · rw [hoth b2 (fun e3 => e2 (h.inj i id b2 c2 c' hi2 (by simp [hob]) k1 (by rw [g1, e3])))]; exact k3
        · obtain ⟨x, hx, hr⟩ := k7 j d hj
          exact ⟨x, hx, RV.ext h (Nat.le_refl _) (hext _) hr⟩
  · by_cases e : i = id'
    · by_cases e' : j = id'
      · rw [e, e']
      · subst e
        obtain ⟨e2, hj2, _⟩ := hold j e' hj
        simp only [upd_same, upd_ne _ _ _ e', Option.some.injEq, Prod.mk.injEq] at hbi hbj
        exact absurd (h.inj j id b2 c2 c' hj2 (by simp [hob]) hbj (by rw [g1, hbi.1])) e2
    · obtain ⟨e2, hi2, _⟩ := hold i e hi
      by_cases e' : j = id'
      · subst e'
        simp only [upd_same, upd_ne _ _ _ e, Option.some.injEq, Prod.mk.injEq] at hbi hbj
        exact absurd (h.inj i id b2 c1 c' hi2 (by simp [hob]) hbi (by rw [g1, hbj.1])) e2
      · obtain ⟨_, hj2, _⟩ := hold j e' hj
        simp only [upd_ne _ _ _ e, upd_ne _ _ _ e'] at hbi hbj
        exact h.inj i j b2 c1 c2 hi2 hj2 hbi hbj
  · have hi' : nx' ≤ i := hi
    have hne1 : i ≠ id' := by omega
    have := h.nx i (Nat.le_trans hnx hi)
    have hne2 : i ≠ id := fun e => by subst e; rw [hob] at this; cases this.2
    simp only [upd_ne _ _ _ hne1, upd_ne _ _ _ hne2]; exact this
  · by_cases e : i = id'
    · subst e
      simp only [upd_same, Option.some.injEq, Prod.mk.injEq] at hb2
      rw [← hb2.1]
      exact h.own id b' c' (by simp [hob]) g1
    · obtain ⟨_, hi2, _⟩ := hold i e hi
      rw [upd_ne _ _ _ e] at hb2
      exact h.own i b2 c2 hi2 hb2
theorem SRel.rewrite [Inhabited GlobS] {w0 : World} {F0 : Nat → Prop} {s : Sto} {β : Beta} {w : World} (h : SRel w0 F0 s β w) (id : Nat) (o : DObj) (hob : s.ob id = some o)
    (b c : Nat) (hb : β id = some (some (b, c))) (w' : World) (cur' : Array Value) (cells' : List DV) (hbel : BelowD b w w') (hoth : ∀ k, k ≠ b → w'.heap[k]? = w.heap[k]?)
    (hnew : w'.heap[b]? = some (blk cur' o.elem)) (hsz : cur'.size = c * o.sz) (hlen : cells'.length ≤ cur'.size)
    (hcur : ∀ (j : Nat) d, cells'[j]? = some d → ∃ x, cur'[j]? = some x ∧ RV w (Fr w0 F0 s β) β d x) :
    SRel w0 F0 ⟨upd s.ob id (some { o with cells := cells' }), s.nx⟩ β w' ∧ ∀ n, Ext n w0 nX s β w ⟨upd s.ob id (some { o with cells := cells' }), s.nx⟩ β w' := by
  rcases h.obs id o hob with h2 | ⟨b', c', cur, g1, g2, g3, g4, g5, g6, g7⟩
  · rw [h2.1] at hb; cases hb
  rw [g1] at hb
  simp only [Option.some.injEq, Prod.mk.injEq] at hb
  obtain ⟨rfl, rfl⟩ := hb
  have hsome : ∀ i, ((upd s.ob id (some { o with cells := cells' })) i).isSome = (s.ob i).isSome := fun i => by
    by_cases e : i = id
    · subst e; simp [hob]
    · rw [upd_ne _ _ _ e]
  have hfr : ∀ b2, Un w0 ⟨upd s.ob id (some { o with cells := cells' }), s.nx⟩ β b2 ↔ Un w0 s β b2 := fun b2 => by simp only [Un, hsome]
  have hnF : ¬ Un w0 s β b' := fun hF => by
    rcases hF with hF | hF
    · omega
    · exact hF.2 id c' (by simp [hob]) g1
  have hext : ∀ n, Ext n w0 nX s β w ⟨upd s.ob id (some { o with cells := cells' }), s.nx⟩ β w' := fun n =>
    ⟨fun _ _ _ hp => hp, hbel.size, fun b2 hb2 _ hF => ⟨(hfr b2).2 hF, hoth b2 (fun e => hnF (by rw [← e]; exact hF))⟩⟩
  refine ⟨⟨h.below.trans (hbel.mono g2), fun i oi hi => ?_, fun i j b2 c1 c2 hi hj => h.inj i j b2 c1 c2 (by rw [← hsome]; exact hi) (by rw [← hsome]; exact hj), fun i hi => ?_, fun b2 hb2 => h.up b2 (Nat.le_trans hbel.size hb2), fun i b2 c2 hi hb2 => h.own i b2 c2 (by rw [← hsome]; exact hi) hb2, h.gl⟩, hext⟩
  · by_cases e : i = id
    · subst e
      simp only [upd_same, Option.some.injEq] at hi
      subst hi
      refine .inr ⟨b', c', cur', g1, g2, hnew, hsz, g5, hlen, fun j d hj => ?_⟩
      obtain ⟨x, hx, hr⟩ := hcur j d hj
      exact ⟨x, hx, RV.ext h (Nat.le_refl _) (hext _) hr⟩
    · simp only [upd_ne _ _ _ e] at hi
      rcases h.obs i oi hi with k1 | ⟨b2, c2, cur2, k1, k2, k3, k4, k5, k6, k7⟩
      · exact .inl k1
      · refine .inr ⟨b2, c2, cur2, k1, k2, ?_, k4, k5, k6, fun j d hj => ?_⟩
        · rw [hoth b2 (fun e3 => e (h.inj i id b2 c2 c' (by simp [hi]) (by simp [hob]) k1 (by rw [g1, e3])))]; exact k3
        · obtain ⟨x, hx, hr⟩ := k7 j d hj
          exact ⟨x, hx, RV.ext h (Nat.le_refl _) (hext _) hr⟩
  · have hne : i ≠ id := fun e => by subst e; have := (h.nx i hi).2; rw [hob] at this; cases this
    rw [show (Sto.mk (upd s.ob id (some { o with cells := cells' })) s.nx).ob i = s.ob i from upd_ne _ _ _ hne]
    exact h.nx i hi
theorem SRel.nilObj [Inhabited GlobS] {w0 : World} {F0 : Nat → Prop} {s : Sto} {β : Beta} {w : World} (h : SRel w0 F0 s β w) (id nx' : Nat) (hid : β id = none) (hob : s.ob id = none) (hnx : s.nx ≤ nx') (hlt : id < nx') (o : DObj) (ho : o.cells = []) :
    SRel w0 F0 ⟨upd s.ob id (some o), nx'⟩ (upd β id (some none)) w ∧ ∀ n, Ext n w0 nX s β w ⟨upd s.ob id (some o), nx'⟩ (upd β id (some none)) w := by
  have hgrow : ∀ i p, β i = some p → upd β id (some none) i = some p := fun i p hp => by
    by_cases e : i = id
    · subst e; rw [hid] at hp; cases hp
    · rw [upd_ne _ _ _ e]; exact hp
  have hext : ∀ n, Ext n w0 nX s β w ⟨upd s.ob id (some o), nx'⟩ (upd β id (some none)) w := fun n =>
    ⟨fun i _ p hp => hgrow i p hp, Nat.le_refl _, fun b hb _ hF => by
      refine ⟨?_, rfl⟩
      rcases hF with hF | ⟨h1, h2⟩
      · exact .inl hF
      · refine .inr ⟨h1, fun i c' hi => ?_⟩
        by_cases e : i = id
        · subst e; simp
        · simp only [upd_ne _ _ _ e] at hi ⊢; exact h2 i c' hi⟩
  refine ⟨⟨h.below, fun i oi hi => ?_, fun i j b c1 c2 hi hj hbi hbj => ?_, fun i hi => ?_, h.up, fun i b c hi hbi => ?_, h.gl⟩, hext⟩
  · by_cases e : i = id
    · subst e
      simp only [upd_same, Option.some.injEq] at hi
      subst hi
      exact .inl ⟨by simp, ho⟩
    · simp only [upd_ne _ _ _ e] at hi
      rcases h.obs i oi hi with k1 | ⟨b2, c2, cur2, k1, k2, k3, k4, k5, k6, k7⟩
      · exact .inl ⟨hgrow _ _ k1.1, k1.2⟩
      · exact .inr ⟨b2, c2, cur2, hgrow _ _ k1, k2, k3, k4, k5, k6, fun j d hj => by
          obtain ⟨x, hx, hr⟩ := k7 j d hj
          exact ⟨x, hx, RV.ext h (Nat.le_refl _) (hext _) hr⟩⟩
  · have n1 : i ≠ id := fun e => by subst e; simp at hbi
    have n2 : j ≠ id := fun e => by subst e; simp at hbj
    simp only [upd_ne _ _ _ n1, upd_ne _ _ _ n2] at hi hj hbi hbj
    exact h.inj i j b c1 c2 hi hj hbi hbj
  · have hi' : nx' ≤ i := hi
    have hne : i ≠ id := by omega
    have := h.nx i (Nat.le_trans hnx hi)
    simp only [upd_ne _ _ _ hne]; exact this
  · have n1 : i ≠ id := fun e => by subst e; simp at hbi
    simp only [upd_ne _ _ _ n1] at hi hbi
    exact h.own i b c hi hbi
def elemI (P : Program) (t : TypeId) : Option (TypeId × Nat × Nat × List DV) :=
  match P.underlying t with
  | some (.slice e) => (match P.info? e, zeroDV P e with
    | some i, some z => if i.size = z.length ∧ 0 < i.size then some (e, i.size, i.bytes, z) else none
    | _, _ => none)
  | _ => none
def tySz (P : Program) (t : TypeId) : Option Nat := (P.info? t).map (·.size)
def newOb (s : Sto) (o : DObj) : Sto := ⟨upd s.ob s.nx (some o), s.nx + 1⟩
def dsrc (s : Sto) (sz : Nat) : DV → Option (Nat × List DV)
  | .arr id m => match s.ob id with
    | some o => if (m * sz ≤ o.cells.length ∧ (o.cells.take (m * sz)).all DV.one = true) ∧ Nat.beq o.elem MAPT = false then some (m, o.cells.take (m * sz)) else none
    | none => none
  | .sub id off m => match s.ob id with
    | some o => if (off + m * sz ≤ o.cells.length ∧ ((o.cells.drop off).take (m * sz)).all DV.one = true) ∧ Nat.beq o.elem MAPT = false then some (m, (o.cells.drop off).take (m * sz)) else none
    | none => none
  | .lst sz' es => if sz' = sz then some (es.length, es.flatten) else none
  | .v (.slice none 0 0) => some (0, [])
  | .v (.slice (some _) 0 _) => some (0, [])
  | _ => none
def dsrcK (s : Sto) (sz : Nat) (d : DV) (K : Nat → List DV → Prop) : Prop :=
  match d with
  | .arr id m => (match s.ob id with
    | some o => cellsO o.elem <| (m * sz ≤ o.cells.length ∧ (o.cells.take (m * sz)).all DV.one = true) ∧ K m (o.cells.take (m * sz))
    | none => False)
  | .sub id off m => (match s.ob id with
    | some o => cellsO o.elem <| (off + m * sz ≤ o.cells.length ∧ ((o.cells.drop off).take (m * sz)).all DV.one = true) ∧ K m ((o.cells.drop off).take (m * sz))
    | none => False)
  | .lst sz' es => if sz' = sz then K es.length es.flatten else False
  | .v (.slice none 0 0) => K 0 []
  | .v (.slice (some _) 0 _) => K 0 []
  | _ => False
theorem dsrcK_sound {s : Sto} {sz : Nat} {d : DV} {K : Nat → List DV → Prop} (h : dsrcK s sz d K) : ∃ m news, dsrc s sz d = some (m, news) ∧ K m news := by
  unfold dsrcK at h
  split at h
  · split at h
    · rename_i o ho
      obtain ⟨hm, hc, h⟩ := cellsO_is h
      exact ⟨_, _, by simp only [dsrc, ho]; rw [if_pos ⟨hc, hm⟩], h⟩
    · exact h.elim
  · split at h
    · rename_i o ho
      obtain ⟨hm, hc, h⟩ := cellsO_is h
      exact ⟨_, _, by simp only [dsrc, ho]; rw [if_pos ⟨hc, hm⟩], h⟩
    · exact h.elim
  · split at h
    · rename_i e
      exact ⟨_, _, by simp only [dsrc]; rw [if_pos e], h⟩
    · exact h.elim
  · exact ⟨_, _, rfl, h⟩
  · exact ⟨_, _, rfl, h⟩
  · exact h.elim
inductive AppC (A B : Prop) : Prop
  | new (h : A)
  | here (h : B)
def dapp (P : Program) (s : Sto) (t : TypeId) (dx dy : DV) (K : DV → Sto → Prop) : Prop :=
  match elemI P t with
  | some (e, sz, bytes, _) => cellsO e <| dsrcK s sz dy fun m news => (match dx with
      | .v (.slice none 0 0) => (m * bytes ≤ 140737488355328 ∧ m ≤ maxLen) ∧ K (.arr s.nx m) ⟨upd s.ob s.nx (some ⟨e, sz, news⟩), s.nx + 1⟩
      | .arr id n => (match s.ob id with
        | some o => AppC ((o.elem = e ∧ o.sz = sz ∧ n * sz ≤ o.cells.length ∧ (n + m) * bytes ≤ 140737488355328 ∧ n + m ≤ maxLen) ∧
            K (.arr s.nx (n + m)) ⟨upd (upd s.ob id none) s.nx (some ⟨e, sz, o.cells.take (n * sz) ++ news⟩), s.nx + 1⟩)
          ((o.elem = e ∧ o.sz = sz ∧ (n + m) * sz ≤ o.cells.length) ∧
            K (.arr id (n + m)) ⟨upd s.ob id (some { o with cells := o.cells.take (n * sz) ++ news ++ o.cells.drop (n * sz + m * sz) }), s.nx⟩)
        | none => False)
      | _ => False)
  | none => False
def etgt (ρ : Operand → DV) : Op → Option Nat
  | .store _ a _ => (match str0 (ρ a) with | .ref id _ => some id | _ => none)
  | .mapUpdate _ m _ _ => (match str0 (ρ m) with | .mo id => some id | _ => none)
  | .call c => (match c.args.toList with
    | [x, _] => (match str0 (ρ x) with | .arr id _ => some id | .sub id _ _ => some id | _ => none)
    | [x] => (match str0 (ρ x) with | .arr id _ => some id | .sub id _ _ => some id | _ => none)
    | _ => none)
  | _ => none
def Oth (β : Beta) (tg : Option Nat) (w w' : World) : Prop := ∀ b, b < w.heap.size → (∀ i c, tg = some i → β i ≠ some (some (b, c))) → w'.heap[b]? = w.heap[b]?
def Nb (s s' : Sto) (β β' : Beta) (tg : Option Nat) (w : World) : Prop := ∀ i b c, (s'.ob i).isSome = true → β' i = some (some (b, c)) → b < w.heap.size →
  ((s.ob i).isSome = true ∧ β i = some (some (b, c))) ∨ ∃ τ c', tg = some τ ∧ (s.ob τ).isSome = true ∧ β τ = some (some (b, c'))
theorem Nb.new {s s' : Sto} {β β' : Beta} {tg : Option Nat} {w : World} (k : Nat) (h1 : ∀ i, i ≠ k → (s'.ob i).isSome = true → (s.ob i).isSome = true) (h2 : ∀ i, i ≠ k → β' i = β i) (h3 : ∀ b c, β' k = some (some (b, c)) → w.heap.size ≤ b) : Nb s s' β β' tg w :=
  fun i b c hi hb hlt => by
    by_cases e : i = k
    · subst e; have := h3 b c hb; omega
    · exact .inl ⟨h1 i e hi, by rw [← h2 i e]; exact hb⟩
theorem Oth.alloc {β : Beta} {tg : Option Nat} (w : World) (o : Obj) : Oth β tg w (w.alloc o) := fun _ hb _ => heap_alloc_old w o hb
def ESem [Inhabited GlobS] (P : Program) (s : Sto) (op : Op) (ρ : Operand → DV) (K : DV → Sto → Prop) : Prop :=
  ∀ (w0 : World) (F0 : Nat → Prop) (β : Beta) (w : World) (a : Act), SRel w0 F0 s β w → (∀ x, RV w (Fr w0 F0 s β) β (ρ x) (a.eval x)) →
    ∃ nx v w' d s' β', (nx = .value v ∨ (nx = .skip ∧ v = undef)) ∧ (∀ (o : Oper), o.op = op → (execOp a.eval o).run P w = .ok nx w') ∧ K d s' ∧
      SRel w0 F0 s' β' w' ∧ Ext s.nx w0 nX s β w s' β' w' ∧ s.nx ≤ s'.nx ∧ RV w' (Fr w0 F0 s' β') β' d v ∧ Oth β (etgt ρ op) w w' ∧ Nb s s' β β' (etgt ρ op) w
def dclear (P : Program) (s : Sto) (t : TypeId) (dx : DV) (K : DV → Sto → Prop) : Prop :=
  match elemI P t with
  | some (_, sz, _, z) => (match dx with
    | .sub id off len => (match s.ob id with
      | some o => cellsO o.elem <| (o.sz = sz ∧ off + len * sz ≤ o.cells.length) ∧ K (.tup []) ⟨upd s.ob id (some { o with cells := o.cells.take off ++ (List.replicate len z).flatten ++ o.cells.drop (off + len * sz) }), s.nx⟩
      | none => False)
    | .arr id len => (match s.ob id with
      | some o => cellsO o.elem <| (o.sz = sz ∧ len * sz ≤ o.cells.length) ∧ K (.tup []) ⟨upd s.ob id (some { o with cells := (List.replicate len z).flatten ++ o.cells.drop (len * sz) }), s.nx⟩
      | none => False)
    | _ => False)
  | none => False
noncomputable def de [Inhabited GlobS] (P : Program) (s : Sto) (ρ : Operand → DV) : Op → (DV → Sto → Prop) → Prop
  | .alloc e, K => (match zeroDV P e with
    | some z => cellsO e (forceL z fun z => K (.ref s.nx 0) (newOb s ⟨e, z.length, z⟩))
    | none => False)
  | .box e x, K => evg true (ρ x) fun d => (match cellsOfDV d with
    | some ds => cellsO e (K (.ref s.nx 0) (newOb s ⟨e, ds.length, ds⟩))
    | none => False)
  | .buildSlice t len parts, K => (match elemI P t with
    | some (e, sz, _, z) => cellsO e <| len * sz ≤ 16777216 ∧ dfill ρ true (fun i => some (i * sz, sz)) parts.toList (List.replicate len z).flatten fun cs => forceL cs fun cs => K (.arr s.nx len) (newOb s ⟨e, sz, cs⟩)
    | none => False)
  | .makeSlice t l c, K => evg true (ρ l) fun dl => evg true (ρ c) fun dc => (match elemI P t with
    | some (e, sz, bytes, z) => cellsO e (match dl, dc with
      | .v (.int _ l), .v (.int _ c) => (0 ≤ l ∧ l ≤ c ∧ c * bytes ≤ 281474976710656 ∧ c ≤ 9223372036854775807) ∧ K (.arr s.nx l.toNat) (newOb s ⟨e, sz, (List.replicate c.toNat z).flatten⟩)
      | _, _ => False)
    | none => False)
  | .store t a x, K => evg true (ρ a) fun da => evg true (ρ x) fun dx => (match da with
    | .ref id off => (match s.ob id, cellsOfDV dx, tySz P t with
      | some o, some ds, some n => cellsO o.elem <| (forceN ds.length fun m => m = n ∧ off + m ≤ o.cells.length ∧ ds.all DV.one = true) ∧ K (.tup []) ⟨upd s.ob id (some { o with cells := setMany o.cells off ds }), s.nx⟩
      | _, _, _ => False)
    | _ => False)
  | .call c, K => (match c.callee, c.args.toList, c.argTypes.toList with
    | .builtin .append, [x, y], [t, t'] => cond (Nat.beq t t') ((t = t') ∧ evg true (ρ x) fun dx => evg true (ρ y) fun dy => dapp P s t dx dy K) (ESem P s (.call c) ρ K)
    | .builtin .clear, [x], [t] => evg true (ρ x) fun dx => dclear P s t dx K
    | _, _, _ => ESem P s (.call c) ρ K)
  | .makeMap _ none, K => K (.mo s.nx) (newOb s ⟨MAPT, 1, [.agg [.dead]]⟩)
  | .mapUpdate t m k x, K => ESem P s (.mapUpdate t m k x) ρ K
  | _, _ => False
theorem SRel.fresh [Inhabited GlobS] {w0 : World} {F0 : Nat → Prop} {s : Sto} {β : Beta} {w : World} (h : SRel w0 F0 s β w) : β s.nx = none ∧ s.ob s.nx = none := h.nx _ (Nat.le_refl _)
theorem SRel.newOb [Inhabited GlobS] {w0 : World} {F0 : Nat → Prop} {s : Sto} {β : Beta} {w : World} (h : SRel w0 F0 s β w) (o : DObj) (hm : Nat.beq o.elem MAPT = false) (cur : Array Value) (c : Nat) (hcs : cur.size = c * o.sz) (hcm : c ≤ maxLen) (hlen : o.cells.length ≤ cur.size)
    (hcur : ∀ (j : Nat) d, o.cells[j]? = some d → ∃ x, cur[j]? = some x ∧ RV w (Fr w0 F0 s β) β d x) :
    ∃ β', β' s.nx = some (some (w.heap.size, c)) ∧ SRel w0 F0 (newOb s o) β' (w.alloc (.cells cur o.elem)) ∧ (∀ n, Ext n w0 nX s β w (newOb s o) β' (w.alloc (.cells cur o.elem))) ∧ ∀ tg, Nb s (newOb s o) β β' tg w := by
  obtain ⟨h1, h2⟩ := h.fresh
  obtain ⟨k1, k2⟩ := h.alloc s.nx h1 h2 (s.nx + 1) (by omega) (by omega) o cur c hcs hcm hlen hcur
  rw [blk_cells hm] at k1 k2
  refine ⟨_, by simp, k1, k2, fun tg => .new s.nx (fun i e hi => ?_) (fun i e => upd_ne _ _ _ e) (fun b c' hb => ?_)⟩
  · simp only [Dl.newOb, upd_ne _ _ _ e] at hi; exact hi
  · simp at hb; omega
theorem zeroDV_some {P : Program} {e : TypeId} {z : List DV} (h : zeroDV P e = some z) : ∃ i zv, P.info? e = some i ∧ i.zero = some zv ∧ z = zv.cells.toList.map .v ∧ zv.cells.toList.all Value.oneCell' = true := by
  unfold zeroDV at h
  split at h
  · rename_i zv hz
    split at h
    · rename_i hall
      obtain ⟨i, h1, h2⟩ := Option.bind_eq_some_iff.1 hz
      simp only [Option.some.injEq] at h
      exact ⟨i, zv, h1, h2, h.symm, hall⟩
    · cases h
  · cases h
theorem pw_zero {w : World} {F : Nat → Prop} {β : Beta} {zv : Value} (hall : zv.cells.toList.all Value.oneCell' = true) : Pw w F β (zv.cells.toList.map .v) zv.cells.toList :=
  ⟨by simp, fun i d y h1 h2 => by
    simp only [List.getElem?_map, h2, Option.map_some, Option.some.injEq] at h1
    subst h1
    exact .data (.v _ (List.all_eq_true.1 hall y (List.mem_of_getElem? h2)))⟩
theorem pw_cur {w : World} {F : Nat → Prop} {β : Beta} {ds : List DV} {cur : Array Value} (h : Pw w F β ds cur.toList) : ∀ (j : Nat) d, ds[j]? = some d → ∃ x, cur[j]? = some x ∧ RV w F β d x := fun j d hj => by
  have hlt : j < cur.toList.length := by rw [← h.1]; exact (List.getElem?_eq_some_iff.1 hj).1
  exact ⟨cur.toList[j], by rw [← Array.getElem?_toList]; exact List.getElem?_eq_getElem hlt, h.2 j d _ hj (List.getElem?_eq_getElem hlt)⟩
section
variable {P : Program} {s : Sto} {ρ : Operand → DV} {K : DV → Sto → Prop}
theorem esem_alloc [Inhabited GlobS] {e : TypeId} (h : de P s ρ (.alloc e) K) : ESem P s (.alloc e) ρ K := by
  simp only [de] at h
  split at h
  · rename_i z hz
    obtain ⟨hm, h⟩ := cellsO_is h
    rw [forceL_eq] at h
    obtain ⟨i, zv, h1, h2, rfl, hall⟩ := zeroDV_some hz
    intro w0 F0 β w a hs hρ
    have hpw := pw_zero (w := w) (F := Fr w0 F0 s β) (β := β) hall
    obtain ⟨β', hb, g1, g2, gn⟩ := hs.newOb ⟨e, (zv.cells.toList.map DV.v).length, zv.cells.toList.map .v⟩ hm zv.cells 1 (by simp) (by simp [maxLen]) (by simp) (pw_cur hpw)
    exact ⟨_, .pointer (some ⟨w.heap.size, 0, none⟩), _, _, _, β', .inl rfl, fun o ho => by
      simp [execOp, ho, Instr.alloc, zeroValue, typeInfo, h1, h2, newVar, newRow], h, g1, g2 _, by simp [Dl.newOb], .ref _ _ _ _ hb, .alloc _ _, gn _⟩
  · exact h.elim
theorem esem_box [Inhabited GlobS] {e : TypeId} {x : Operand} (h : de P s ρ (.box e x) K) : ESem P s (.box e x) ρ K := by
  simp only [de] at h
  obtain ⟨d, h, hx⟩ := evg_sound _ h
  split at h
  · rename_i ds hds
    obtain ⟨hm, h⟩ := cellsO_is h
    intro w0 F0 β w a hs hρ
    have hpw := cells_pw (hx rfl _ _ _ _ (hρ x)) hds
    have hl : ds.length = (a.eval x).cells.size := by have := hpw.1; simpa using this
    obtain ⟨β', hb, g1, g2, gn⟩ := hs.newOb ⟨e, ds.length, ds⟩ hm (a.eval x).cells 1 (by simp [hl]) (by simp [maxLen]) (by simp [hl]) (pw_cur hpw)
    exact ⟨_, .pointer (some ⟨w.heap.size, 0, none⟩), _, _, _, β', .inl rfl, fun o ho => by
      simp [execOp, ho, Instr.box, newVar, newRow], h, g1, g2 _, by simp [Dl.newOb], .ref _ _ _ _ hb, .alloc _ _, gn _⟩
  · exact h.elim
theorem elemI_some {t e : TypeId} {sz bytes : Nat} {z : List DV} (h : elemI P t = some (e, sz, bytes, z)) :
    ∃ i zv, P.underlying t = some (.slice e) ∧ P.info? e = some i ∧ i.size = sz ∧ i.bytes = bytes ∧ i.zero = some zv ∧ z = zv.cells.toList.map .v ∧ zv.cells.toList.all Value.oneCell' = true ∧ zv.cells.size = sz ∧ 0 < sz := by
  unfold elemI at h
  split at h
  · rename_i e' h1
    split at h
    · rename_i i z' h2 h3
      split at h
      · rename_i h4
        simp only [Option.some.injEq, Prod.mk.injEq] at h
        obtain ⟨rfl, rfl, rfl, rfl⟩ := h
        obtain ⟨i', zv, k1, k2, k3, k4⟩ := zeroDV_some h3
        rw [h2] at k1
        cases k1
        refine ⟨i, zv, h1, h2, rfl, rfl, k2, k3, k4, ?_, h4.2⟩
        have := h4.1
        rw [k3] at this
        simpa using this.symm
      · cases h
    · cases h
  · cases h
theorem zeros_flat (z : Array Value) (n sz : Nat) (hz : z.size = sz) (h0 : 0 < sz) : ((Array.range (n * sz)).map fun i => z[i % sz]!).toList = (List.replicate n z.toList).flatten := by
  apply List.ext_getElem?
  intro i
  have hl : (List.replicate n z.toList).flatten.length = n * sz := by simp [List.length_flatten, hz]
  by_cases hi : i < n * sz
  · have hm : i % sz < sz := Nat.mod_lt _ h0
    have hd : i / sz < n := Nat.div_lt_of_lt_mul (by rw [Nat.mul_comm]; exact hi)
    rw [Array.getElem?_toList, Array.getElem?_map, Array.getElem?_range, if_pos hi]
    have key : ∀ (n : Nat) (i : Nat), i < n * sz → (List.replicate n z.toList).flatten[i]? = z.toList[i % sz]? := fun n => by
      induction n with
      | zero => intro i hi; omega
      | succ n ih =>
        intro i hi
        rw [List.replicate_succ, List.flatten_cons, List.getElem?_append]
        by_cases h : i < sz
        · rw [if_pos (by simpa [hz] using h), Nat.mod_eq_of_lt h]
        · rw [if_neg (by simp [hz]; omega)]
          have hl2 : z.toList.length = sz := by simpa using hz
          rw [hl2, ih (i - sz) (by rw [Nat.succ_mul] at hi; omega), Nat.mod_eq_sub_mod (by omega : i ≥ sz)]
    rw [key n i hi]
    simp [hz, hm, getElem!_pos]
  · rw [List.getElem?_eq_none (by simp; omega), List.getElem?_eq_none (by omega)]
theorem foldl_size (off : Nat) (l : List (Value × Nat)) : ∀ (xs : Array Value), (l.foldl (fun cs (x : Value × Nat) => cs.setIfInBounds (off + x.2) x.1) xs).size = xs.size := by
  induction l with
  | nil => intro xs; rfl
  | cons q l ih => intro xs; rw [List.foldl_cons, ih]; simp
theorem fill_size (place : Nat → Option (Nat × Nat)) (parts : List (Nat × Value)) : ∀ (xs ys : Array Value), Instr.fill place xs parts = some ys → ys.size = xs.size := by
  induction parts with
  | nil => intro xs ys h; simp [Instr.fill] at h; rw [h]
  | cons p parts ih =>
    intro xs ys h
    obtain ⟨i, v⟩ := p
    simp only [Instr.fill] at h
    split at h
    · cases h
    · split at h
      · cases h
      · rw [ih _ _ h, ← Array.foldl_toList]
        exact foldl_size _ _ _
theorem esem_buildSlice [Inhabited GlobS] {t : TypeId} {len : Nat} {parts : Array (Nat × Operand)} (h : de P s ρ (.buildSlice t len parts) K) : ESem P s (.buildSlice t len parts) ρ K := by
  simp only [de] at h
  split at h
  · rename_i e sz bytes z hel
    obtain ⟨hm, hle, h⟩ := cellsO_is h
    obtain ⟨i, zv, g1, g2, g3, g4, g5, g6, g7, g8, g9⟩ := elemI_some hel
    obtain ⟨cs, k1, k2⟩ := dfill_sound _ _ h
    rw [forceL_eq] at k1
    intro w0 F0 β w a hs hρ
    have hz := zeros_flat zv.cells len sz g8 g9
    have hpz : Pw w (Fr w0 F0 s β) β (List.replicate len z).flatten ((Array.range (len * sz)).map fun i => zv.cells[i % sz]!).toList := by
      rw [hz, g6]
      refine ⟨by simp [List.length_flatten], fun i d y h1 h2 => ?_⟩
      have hmem : y ∈ (List.replicate len zv.cells.toList).flatten := List.mem_of_getElem? h2
      have e1 : (List.replicate len (zv.cells.toList.map DV.v)).flatten = ((List.replicate len zv.cells.toList).flatten).map .v := by
        rw [List.map_flatten, List.map_replicate]
      rw [e1, List.getElem?_map, h2] at h1
      simp only [Option.map_some, Option.some.injEq] at h1
      subst h1
      obtain ⟨l, hl1, hl2⟩ := List.mem_flatten.1 hmem
      rw [List.mem_replicate] at hl1
      rw [hl1.2] at hl2
      exact .data (.v _ (List.all_eq_true.1 g7 y hl2))
    obtain ⟨ys, q1, q2⟩ := k2 rfl _ _ _ a.eval hρ _ hpz
    have hys : ys.length = len * sz := by
      have h1 := q1.1
      have h2 := hpz.1
      have h3 : cs.length = (List.replicate len z).flatten.length := by
        have h4 := fill_size _ _ _ _ q2
        simp only [List.size_toArray] at h4
        omega
      rw [hz] at h2
      simp [List.length_flatten, g8] at h2 h3
      omega
    obtain ⟨β', hb, g1', g2', gn⟩ := hs.newOb ⟨e, sz, cs⟩ hm ys.toArray len (by simpa using hys) (by simp only [maxLen]; have : len ≤ len * sz := Nat.le_mul_of_pos_right _ g9; omega) (by simp [q1.1]) (pw_cur (by simpa using q1))
    refine ⟨_, .slice (some ⟨w.heap.size, 0, none⟩) len len, _, _, _, β', .inl rfl, fun o ho => ?_, k1, g1', g2' _, by simp [Dl.newOb], .arr _ _ _ _ hb (Nat.le_refl _), .alloc _ _, gn _⟩
    have e2 : (parts.map fun x => (x.1, a.eval x.2)).toList = parts.toList.map fun x => (x.1, a.eval x.2) := by simp
    rw [Array.toArray_toList] at q2
    simp only [execOp, ho, Instr.buildSlice, Sem.run_bind, run_underlying g1, Result.andThen_ok, run_sizeOf g2, g3]
    rw [if_neg (by omega)]
    by_cases h0 : len * sz = 0
    · rw [if_pos h0]
      simp only [h0, Array.range_zero', Array.map_empty] at q2 ⊢
      simp only [Sem.run_bind, Sem.run_pure, Result.andThen_ok]
      rw [e2, q2]
      simp [newRow]
    · rw [if_neg h0]
      simp only [Sem.run_bind, Sem.run_pure, Result.andThen_ok, zeroValue, typeInfo, run_program, g2, g5]
      rw [e2, g8, q2]
      simp [newRow]
  · exact h.elim
end
end Go.Dl

namespace Go.Dl
open Go Go.RowKit
theorem setManyV_eq (ds : List Value) : ∀ (cs : List Value) (off : Nat), off + ds.length ≤ cs.length → setManyV cs off ds = cs.take off ++ ds ++ cs.drop (off + ds.length) := by
  induction ds with
  | nil => intro cs off h; simp [setManyV]
  | cons d ds ih =>
    intro cs off h
    simp only [List.length_cons] at h
    rw [setManyV, ih _ _ (by simp; omega)]
    apply List.ext_getElem?
    intro i
    simp only [List.getElem?_append, List.length_append, List.length_take, List.length_set, List.getElem?_take, List.getElem?_drop, List.length_cons]
    have hm : min (off + 1) cs.length = off + 1 := by omega
    have hm' : min off cs.length = off := by omega
    rw [hm, hm']
    by_cases h1 : i < off
    · simp [h1, show i < off + 1 by omega, List.getElem?_set_ne (show off ≠ i by omega), show i < off + 1 + ds.length by omega, show i < off + (ds.length + 1) by omega]
    · by_cases h2 : i = off
      · subst h2
        have : i < cs.length := by omega
        simp [this, show i < i + 1 + ds.length by omega]
      · by_cases h3 : i < off + 1 + ds.length
        · simp [h1, show ¬ i < off + 1 by omega, h3, show i < off + (ds.length + 1) by omega, show i - off = (i - (off + 1)) + 1 by omega]
        · have e : off + 1 + ds.length + (i - (off + 1 + ds.length)) = i := by omega
          have e' : off + (ds.length + 1) + (i - (off + (ds.length + 1))) = i := by omega
          simp only [h3, show ¬ i < off + (ds.length + 1) by omega, if_false, e, e']
          rw [List.getElem?_set_ne (by omega)]
section
variable {P : Program} {s : Sto} {ρ : Operand → DV} {K : DV → Sto → Prop}
def Cw (w : World) (F : Nat → Prop) (β : Beta) (ds : List DV) (xs : List Value) : Prop := ∀ (j : Nat) d, ds[j]? = some d → ∃ x, xs[j]? = some x ∧ RV w F β d x
theorem Cw.set {w : World} {F : Nat → Prop} {β : Beta} {d : DV} {x : Value} {ds : List DV} {xs : List Value} (k : Cw w F β ds xs) (h : RV w F β d x) (off : Nat) : Cw w F β (ds.set off d) (xs.set off x) := by
  intro i d' h1
  have hi : i < ds.length := by have := (List.getElem?_eq_some_iff.1 h1).1; simpa using this
  have hix : i < xs.length := by
    obtain ⟨y, hy, _⟩ := k i _ (List.getElem?_eq_getElem hi)
    exact (List.getElem?_eq_some_iff.1 hy).1
  by_cases e : off = i
  · subst e
    rw [List.getElem?_set_self hi] at h1
    cases h1
    exact ⟨x, List.getElem?_set_self hix, h⟩
  · rw [List.getElem?_set_ne e] at h1 ⊢
    exact k i d' h1
theorem Cw.setMany {w : World} {F : Nat → Prop} {β : Beta} (ds : List DV) : ∀ (vs : List Value) (cs : List DV) (xs : List Value) (off : Nat), Cw w F β cs xs → Pw w F β ds vs →
    Cw w F β (setMany cs off ds) (setManyV xs off vs) := by
  induction ds with
  | nil =>
    intro vs cs xs off h k
    have : vs = [] := by have := k.1; simp at this; exact List.length_eq_zero_iff.1 this.symm
    subst this; exact h
  | cons d ds ih =>
    intro vs cs xs off h k
    cases vs with
    | nil => have := k.1; simp at this
    | cons v vs =>
      obtain ⟨k1, k2⟩ := k.tail
      exact ih vs _ _ _ (h.set k1 off) k2
theorem pw_one {w : World} {F : Nat → Prop} {β : Beta} {ds : List DV} {vs : List Value} (h : Pw w F β ds vs) (h1 : ds.all DV.one = true) : ∀ v ∈ vs, v.oneCell' = true := fun v hv => by
  obtain ⟨i, hi⟩ := List.mem_iff_getElem?.1 hv
  have hlt : i < ds.length := by rw [h.1]; exact (List.getElem?_eq_some_iff.1 hi).1
  exact rv_one (h.2 i _ v (List.getElem?_eq_getElem hlt) hi) (List.all_eq_true.1 h1 _ (List.getElem_mem hlt))
theorem below_setRow [Inhabited GlobS] (w : World) (b : Nat) (cs : Array Value) : BelowD b w (w.setRow b cs) :=
  ⟨rfl, rfl, rfl, by simp, fun k hk => setRow_other w b k cs (by omega), fun _ => Nat.le_refl _⟩
theorem esem_store [Inhabited GlobS] {t : TypeId} {x y : Operand} (h : de P s ρ (.store t x y) K) : ESem P s (.store t x y) ρ K := by
  simp only [de] at h
  obtain ⟨h, ha⟩ := evg_sound2 _ h
  obtain ⟨dx, h, hx⟩ := evg_sound _ h
  generalize hda : str0 (ρ x) = da at h ha
  split at h
  · rename_i id off
    split at h
    · rename_i o ds n hob hds hn
      obtain ⟨hm, h⟩ := cellsO_is h
      rw [forceN_eq] at h
      obtain ⟨⟨h1, h2, h3⟩, hK⟩ := h
      intro w0 F0 β w a hs hρ
      obtain ⟨b, c, hb, he⟩ := rv_ref (ha rfl _ _ _ _ (hρ x))
      have hpw := cells_pw (hx rfl _ _ _ _ (hρ y)) hds
      rcases hs.obs id o hob with g | ⟨b', c', cur, g1, g2, g3, g4, g5, g6, g7⟩
      · rw [g.1] at hb; cases hb
      rw [g1] at hb
      simp only [Option.some.injEq, Prod.mk.injEq] at hb
      obtain ⟨rfl, rfl⟩ := hb
      rw [blk_cells hm] at g3
      have hlen : ds.length = (a.eval y).cells.toList.length := hpw.1
      have hlen' : (a.eval y).cells.size = ds.length := by simpa using hlen.symm
      have hcw : Cw w (Fr w0 F0 s β) β o.cells cur.toList := fun j d hj => by
        obtain ⟨z, hz, hr⟩ := g7 j d hj
        exact ⟨z, by simpa using hz, hr⟩
      have hcw' := hcw.setMany ds _ _ _ off hpw
      have hst := run_storeCells_at P b' off o.elem (a.eval y).cells.toList 0 cur w g3 (by rw [← hlen]; omega) (pw_one hpw h3)
      have hfit : off + (a.eval y).cells.toList.length ≤ cur.toList.length := by rw [← hlen]; simp; omega
      have heq := setManyV_eq (a.eval y).cells.toList cur.toList off hfit
      simp only [Nat.add_zero] at hst
      rw [← heq] at hst
      have hsz : (setManyV cur.toList off (a.eval y).cells.toList).toArray.size = cur.size := by simp [length_setManyV]
      obtain ⟨k1, k2⟩ := hs.rewrite id o hob b' c' g1 (w.setRow b' (setManyV cur.toList off (a.eval y).cells.toList).toArray) _ (setMany o.cells off ds) (below_setRow w b' _) (fun k hk => setRow_other w b' k _ hk)
        (by rw [blk_cells hm]; exact setRow_heap w b' cur _ _ _ g3) (by rw [hsz]; exact g4) (by rw [hsz, length_setMany]; exact g6) (fun j d hj => by
          obtain ⟨z, hz, hr⟩ := hcw' j d hj
          exact ⟨z, by simpa using hz, hr⟩)
      refine ⟨.skip, undef, _, _, _, β, .inr ⟨rfl, rfl⟩, fun op ho => ?_, hK, k1, k2 _, Nat.le_refl _, .tup [] [] rfl (fun i d x h => by simp at h), fun b2 _ h2 => setRow_other w b' b2 _ (fun e => h2 id c' (by simp [etgt, hda]) (by rw [e]; exact g1)), fun i b2 c2 hi hb2 _ => .inl ⟨by
        by_cases e : i = id
        · subst e; simp [hob]
        · simpa only [upd_ne _ _ _ e] using hi, hb2⟩⟩
      have hn' : ∃ i, P.info? t = some i ∧ i.size = n := by
        unfold tySz at hn
        cases hi : P.info? t with
        | none => simp [hi] at hn
        | some i => exact ⟨i, rfl, by simpa [hi] using hn⟩
      obtain ⟨i, hi, hin⟩ := hn'
      simp only [execOp, ho, he, Instr.storeAt, Instr.sureAddr, storeVar, Sem.run_bind, Sem.run_pure, Result.andThen_ok, run_sizeOf hi]
      rw [if_neg (by rw [hlen', h1, hin]; simp)]
      rw [hst]
      rfl
    · exact h.elim
  · exact h.elim
theorem dsrc_sound [Inhabited GlobS] {w0 w : World} {F0 : Nat → Prop} {β : Beta} {sz m : Nat} {d : DV} {news : List DV} (hs : SRel w0 F0 s β w) (h0 : 0 < sz) (h : dsrc s sz d = some (m, news)) {x : Value} (hx : RV w (Fr w0 F0 s β) β d x) :
    news.length = m * sz ∧ ((x = .slice none 0 0 ∧ m = 0) ∨ ∃ ad c vs, x = .slice (some ad) m c ∧ Pw w (Fr w0 F0 s β) β news vs ∧ (∀ v ∈ vs, v.oneCell' = true) ∧ ∀ (j : Nat) u, vs[j]? = some u → w.cell? (ad.add j) = some u) := by
  unfold dsrc at h
  split at h
  · rename_i id k
    split at h
    · rename_i o hob
      split at h
      · rename_i hc
        obtain ⟨⟨hle, hone⟩, hm⟩ := hc
        simp only [Option.some.injEq, Prod.mk.injEq] at h
        obtain ⟨rfl, rfl⟩ := h
        refine ⟨by simp; omega, ?_⟩
        rcases rv_arr hx with ⟨b, c, hb, hlc, rfl⟩ | ⟨hb, rfl, rfl⟩
        · rcases hs.obs id o hob with g | ⟨b', c', cur, g1, g2, g3, g4, g5, g6, g7⟩
          · rw [g.1] at hb; cases hb
          rw [g1] at hb
          simp only [Option.some.injEq, Prod.mk.injEq] at hb
          obtain ⟨rfl, rfl⟩ := hb
          rw [blk_cells hm] at g3
          have hpw : Pw w (Fr w0 F0 s β) β (o.cells.take (k * sz)) (cur.toList.take (k * sz)) := by
            refine ⟨by simp; omega, fun j d y h1 h2 => ?_⟩
            rw [List.getElem?_take] at h1 h2
            split at h1
            · rename_i hj
              obtain ⟨z, hz, hr⟩ := g7 j d h1
              rw [if_pos hj] at h2
              rw [Array.getElem?_toList, hz] at h2
              cases h2; exact hr
            · cases h1
          refine .inr ⟨_, _, cur.toList.take (k * sz), rfl, hpw, pw_one hpw hone, fun j u hu => ?_⟩
          rw [List.getElem?_take] at hu
          split at hu
          · rw [Addr.add_lit, Nat.zero_add]; simpa [World.cell?, g3] using hu
          · cases hu
        · exact .inl ⟨rfl, rfl⟩
      · cases h
    · cases h
  · rename_i id off k
    split at h
    · rename_i o hob
      split at h
      · rename_i hc
        obtain ⟨⟨hle, hone⟩, hm⟩ := hc
        simp only [Option.some.injEq, Prod.mk.injEq] at h
        obtain ⟨rfl, rfl⟩ := h
        refine ⟨by simp; omega, ?_⟩
        obtain ⟨ad, n, rfl, q1, q2, q3⟩ := rv_sub hx
        by_cases h00 : 0 < k
        · obtain ⟨b, c, hb, rfl⟩ := q1 h00
          rcases hs.obs id o hob with g | ⟨b', c', cur, g1, g2, g3, g4, g5, g6, g7⟩
          · rw [g.1] at hb; cases hb
          rw [g1] at hb
          simp only [Option.some.injEq, Prod.mk.injEq] at hb
          obtain ⟨rfl, rfl⟩ := hb
          rw [blk_cells hm] at g3
          have hcl : o.cells.length ≤ cur.toList.length := by simpa using g6
          have hpw : Pw w (Fr w0 F0 s β) β ((o.cells.drop off).take (k * sz)) ((cur.toList.drop off).take (k * sz)) := by
            refine ⟨by simp only [List.length_take, List.length_drop]; omega, fun j d y h1 h2 => ?_⟩
            rw [List.getElem?_take] at h1 h2
            split at h1
            · rename_i hj
              rw [List.getElem?_drop] at h1
              obtain ⟨z, hz, hr⟩ := g7 (off + j) d h1
              rw [if_pos hj, List.getElem?_drop] at h2
              rw [Array.getElem?_toList, hz] at h2
              cases h2; exact hr
            · cases h1
          refine .inr ⟨_, _, (cur.toList.drop off).take (k * sz), rfl, hpw, pw_one hpw hone, fun j u hu => ?_⟩
          rw [List.getElem?_take] at hu
          split at hu
          · rw [List.getElem?_drop] at hu
            rw [Addr.add_lit]; simpa [World.cell?, g3] using hu
          · cases hu
        · have hk0 : k = 0 := by omega
          subst hk0
          cases ad with
          | none => have := q2 rfl; subst this; exact .inl ⟨rfl, rfl⟩
          | some ad => exact .inr ⟨ad, n, [], rfl, by simpa using Pw.nil, fun v hv => by simp at hv, fun j u hu => by simp at hu⟩
      · cases h
    · cases h
  · rename_i sz' es
    split at h
    · rename_i e
      subst e
      simp only [Option.some.injEq, Prod.mk.injEq] at h
      obtain ⟨rfl, rfl⟩ := h
      cases hx with
      | data hx =>
        cases hx with
        | lst _ _ a b off cap g ha hn hc hm hsz hcell hd =>
          have hflat : ∀ (es : List (List DV)), (∀ (i : Nat) cs, es[i]? = some cs → cs.length = sz') → es.flatten.length = es.length * sz' ∧
              ∀ (i j : Nat) cs, es[i]? = some cs → j < sz' → es.flatten[i * sz' + j]? = cs[j]? := fun es => by
            induction es with
            | nil => intro _; simp
            | cons e es ih =>
              intro hsz
              have he : e.length = sz' := hsz 0 e rfl
              obtain ⟨i1, i2⟩ := ih (fun i cs h => hsz (i + 1) cs (by simpa using h))
              refine ⟨by simp [i1, he, Nat.succ_mul, Nat.add_comm], fun i j cs h hj => ?_⟩
              cases i with
              | zero =>
                simp at h; subst h
                simp [List.getElem?_append, he, hj]
              | succ i =>
                rw [List.flatten_cons, List.getElem?_append, if_neg (by rw [he, Nat.succ_mul]; omega), he]
                rw [show (i + 1) * sz' + j - sz' = i * sz' + j by rw [Nat.succ_mul]; omega]
                exact i2 i j cs (by simpa using h) hj
          obtain ⟨f1, f2⟩ := hflat es hsz
          refine ⟨f1, ?_⟩
          cases a with
          | none =>
            have := hn rfl
            have he : es.length = 0 := by omega
            exact .inl ⟨by rw [he, this], he⟩
          | some ad =>
            refine .inr ⟨ad, cap, (List.range (es.length * sz')).map fun k => g (k / sz') (k % sz'), rfl, ?_⟩
            have hget : ∀ (j : Nat) u, ((List.range (es.length * sz')).map fun k => g (k / sz') (k % sz'))[j]? = some u → j < es.length * sz' ∧ u = g (j / sz') (j % sz') := fun j u hu => by
              have hlt : j < es.length * sz' := by have := (List.getElem?_eq_some_iff.1 hu).1; simpa using this
              simp [hlt] at hu
              exact ⟨hlt, hu.symm⟩
            have hpt : ∀ (j : Nat), j < es.length * sz' → ∃ cs d, es[j / sz']? = some cs ∧ cs[j % sz']? = some d ∧ es.flatten[j]? = some d := fun j hj => by
              have h1 : j / sz' < es.length := Nat.div_lt_of_lt_mul (by rw [Nat.mul_comm]; exact hj)
              have h2 : j % sz' < sz' := Nat.mod_lt _ h0
              have hl := hsz _ _ (List.getElem?_eq_getElem h1)
              refine ⟨es[j / sz'], es[j / sz'][j % sz'], List.getElem?_eq_getElem h1, List.getElem?_eq_getElem (by omega), ?_⟩
              have := f2 (j / sz') (j % sz') _ (List.getElem?_eq_getElem h1) h2
              rw [Nat.div_add_mod'] at this
              rw [this]; exact List.getElem?_eq_getElem (by omega)
            refine ⟨⟨by simp [f1], fun j d y h1 h2 => ?_⟩, fun v hv => ?_, fun j u hu => ?_⟩
            · obtain ⟨hlt, rfl⟩ := hget j y h2
              obtain ⟨cs, d', k1, k2, k3⟩ := hpt j hlt
              rw [h1] at k3
              cases k3
              exact .data (hd _ _ _ _ k1 k2)
            · obtain ⟨j, hj⟩ := List.mem_iff_getElem?.1 hv
              obtain ⟨hlt, rfl⟩ := hget j v hj
              obtain ⟨cs, d', k1, k2, k3⟩ := hpt j hlt
              exact (hd _ _ _ _ k1 k2).one
            · obtain ⟨hlt, rfl⟩ := hget j u hu
              obtain ⟨cs, d', k1, k2, k3⟩ := hpt j hlt
              have hne : es ≠ [] := fun e => by subst e; simp at k1
              have := ha hne
              simp only [Option.some.injEq] at this
              subst this
              have h5 := (hcell _ _ _ _ k1 k2).1
              rw [Addr.add_lit]
              rw [Nat.add_assoc, Nat.div_add_mod'] at h5
              exact h5
    · cases h
  · simp only [Option.some.injEq, Prod.mk.injEq] at h
    obtain ⟨rfl, rfl⟩ := h
    exact ⟨by simp, .inl ⟨rv_v hx, rfl⟩⟩
  · rename_i ad c
    simp only [Option.some.injEq, Prod.mk.injEq] at h
    obtain ⟨rfl, rfl⟩ := h
    exact ⟨by simp, .inr ⟨ad, c, [], rv_v hx, .nil, fun v hv => by simp at hv, fun j u hu => by simp at hu⟩⟩
  · cases h
theorem esem_append [Inhabited GlobS] {x y : Operand} {t : TypeId} (h : evg true (ρ x) fun dx => evg true (ρ y) fun dy => dapp P s t dx dy K) : ESem P s (.call ⟨.builtin .append, #[x, y], #[t, t]⟩) ρ K := by
  obtain ⟨h, hx⟩ := evg_sound2 _ h
  obtain ⟨dy, h, hy⟩ := evg_sound _ h
  generalize hdx : str0 (ρ x) = dx at h hx
  unfold dapp at h
  split at h
  · rename_i e sz bytes z hel
    obtain ⟨i, zv, t1, t2, t3, t4, t5, t6, t7, t8, t9⟩ := elemI_some hel
    obtain ⟨hmt, h1⟩ := cellsO_is h
    clear h
    obtain ⟨m, news, hsrc, h⟩ := dsrcK_sound h1
    · intro w0 F0 β w a hs hρ
      obtain ⟨hnl, hsv⟩ := dsrc_sound hs t9 hsrc (hy rfl _ _ _ _ (hρ y))
      have hvx := hx rfl _ _ _ _ (hρ x)
      -- the run, as the builtin's
      have hrun : ∀ (v : Value) (w' : World), (∀ ty, (Builtin.append_ #[t, t] ty #[a.eval x, a.eval y]).run P w = .ok v w') → ∀ (o : Oper), o.op = .call ⟨.builtin .append, #[x, y], #[t, t]⟩ → (execOp a.eval o).run P w = .ok (.value v) w' := fun v w' hr o ho => by
        simp only [execOp, ho, resolve, invoke, builtin, Sem.run_bind, Sem.run_pure, Result.andThen_ok, List.map_toArray, List.map_cons, List.map_nil, hr]
      -- a new block
      have grown : ∀ (s1 : Sto) (_ : SRel w0 F0 s1 β w) (_ : Ext s.nx w0 nX s β w s1 β w) (_ : s1.nx = s.nx) (_ : ∀ i, (s1.ob i).isSome = true → (s.ob i).isSome = true) (old : Nat) (n : Nat) (olds : List DV) (ovs : List Value), old < n + m → n + m ≤ maxLen → olds.length = n * sz →
          Pw w (Fr w0 F0 s1 β) β olds ovs → (∃ vs, Pw w (Fr w0 F0 s1 β) β news vs ∧
            ∀ ty, (Builtin.append_ #[t, t] ty #[a.eval x, a.eval y]).run P w = .ok (.slice (some ⟨w.heap.size, 0, none⟩) (n + m) (grownCap w (n + m) old e)) (w.drew.alloc (.cells (ovs.toArray ++ vs.toArray ++ Builtin.zeroCells zv.cells (grownCap w (n + m) old e - (n + m))) e))) →
          K (.arr s.nx (n + m)) ⟨upd s1.ob s.nx (some ⟨e, sz, olds ++ news⟩), s.nx + 1⟩ →
          ∃ nx v w' d s' β', (nx = .value v ∨ (nx = .skip ∧ v = undef)) ∧ (∀ (o : Oper), o.op = .call ⟨.builtin .append, #[x, y], #[t, t]⟩ → (execOp a.eval o).run P w = .ok nx w') ∧ K d s' ∧
            SRel w0 F0 s' β' w' ∧ Ext s.nx w0 nX s β w s' β' w' ∧ s.nx ≤ s'.nx ∧ RV w' (Fr w0 F0 s' β') β' d v ∧ Oth β (etgt ρ (.call ⟨.builtin .append, #[x, y], #[t, t]⟩)) w w' ∧ Nb s s' β β' (etgt ρ (.call ⟨.builtin .append, #[x, y], #[t, t]⟩)) w := by
        intro s1 hs1 hext hnx hso old n olds ovs hold hml hol hpo ⟨vs, hpv, hr⟩ hK
        have hge := grownCap_ge w (n + m) old e
        have hcm : grownCap w (n + m) old e ≤ maxLen := grownCap_le_maxLen w (n + m) old e hml
        have hbd : BelowD w.heap.size w w.drew := ⟨rfl, rfl, rfl, Nat.le_refl _, fun _ _ => rfl, fun _ => Nat.le_succ _⟩
        obtain ⟨hs2, hext2⟩ := hs1.below' hbd
        have hvl : vs.length = m * sz := by rw [← hpv.1]; exact hnl
        have hovl : ovs.length = n * sz := by rw [← hpo.1]; exact hol
        have hzl : (Builtin.zeroCells zv.cells (grownCap w (n + m) old e - (n + m))).size = (grownCap w (n + m) old e - (n + m)) * sz := by rw [size_zeroCells, t8]
        have hcur : (ovs.toArray ++ vs.toArray ++ Builtin.zeroCells zv.cells (grownCap w (n + m) old e - (n + m))).size = grownCap w (n + m) old e * sz := by
          simp only [Array.size_append, List.size_toArray, hvl, hovl, hzl, ← Nat.add_mul]
          congr 1; omega
        have hlen : (olds ++ news).length ≤ (ovs.toArray ++ vs.toArray ++ Builtin.zeroCells zv.cells (grownCap w (n + m) old e - (n + m))).size := by
          rw [hcur, List.length_append, hol, hnl, ← Nat.add_mul]; exact Nat.mul_le_mul_right _ hge
        obtain ⟨k1, k2⟩ := hs2.alloc s.nx (by rw [← hnx]; exact hs2.fresh.1) (by rw [← hnx]; exact hs2.fresh.2) (s.nx + 1) (by omega) (by omega) ⟨e, sz, olds ++ news⟩ _ (grownCap w (n + m) old e) hcur hcm hlen (fun j d hj => by
          rw [List.getElem?_append] at hj
          split at hj
          · rename_i hjl
            have hjo : j < ovs.length := by rw [← hpo.1]; exact hjl
            refine ⟨ovs[j], ?_, RV.ext hs1 (Nat.le_refl _) (hext2 _) (hpo.2 j d _ hj (List.getElem?_eq_getElem hjo))⟩
            rw [Array.getElem?_append_left (by simp; omega), Array.getElem?_append_left (by simpa using hjo)]
            simp
          · rename_i hjl
            have hjn : j - olds.length < vs.length := by rw [← hpv.1]; exact (List.getElem?_eq_some_iff.1 hj).1
            refine ⟨vs[j - olds.length], ?_, RV.ext hs1 (Nat.le_refl _) (hext2 _) (hpv.2 _ d _ hj (List.getElem?_eq_getElem hjn))⟩
            have hlo := hpo.1
            rw [Array.getElem?_append_left (by simp; omega), Array.getElem?_append_right (by simp; omega)]
            simp [hlo])
        dsimp only at k1 k2
        rw [blk_cells hmt] at k1 k2
        refine ⟨_, .slice (some ⟨w.heap.size, 0, none⟩) (n + m) (grownCap w (n + m) old e), _, _, _, _, .inl rfl, hrun _ _ hr, hK, k1, (hext.trans ((hext2 _).trans (k2 _))), Nat.le_succ _, ?_⟩
        exact ⟨.arr _ _ w.heap.size _ (by simp) hge, fun b2 hb2 _ => heap_alloc_old w.drew _ hb2, .new s.nx (fun i e hi => hso i (by simpa only [upd_ne _ _ _ e] using hi)) (fun i e => upd_ne _ _ _ e) (fun b c' hb => by simp at hb; exact Nat.le_of_eq hb.1)⟩
      -- nothing to append to nothing
      have hnil : a.eval x = .slice none 0 0 → ∀ (s1 : Sto) (_ : SRel w0 F0 s1 β w) (_ : Ext s.nx w0 nX s β w s1 β w) (_ : s1.nx = s.nx) (_ : ∀ i, (s1.ob i).isSome = true → (s.ob i).isSome = true) (olds : List DV), olds = [] → m * bytes ≤ 140737488355328 → m ≤ maxLen →
          K (.arr s.nx (0 + m)) ⟨upd s1.ob s.nx (some ⟨e, sz, olds ++ news⟩), s.nx + 1⟩ →
          ∃ nx v w' d s' β', (nx = .value v ∨ (nx = .skip ∧ v = undef)) ∧ (∀ (o : Oper), o.op = .call ⟨.builtin .append, #[x, y], #[t, t]⟩ → (execOp a.eval o).run P w = .ok nx w') ∧ K d s' ∧
            SRel w0 F0 s' β' w' ∧ Ext s.nx w0 nX s β w s' β' w' ∧ s.nx ≤ s'.nx ∧ RV w' (Fr w0 F0 s' β') β' d v ∧ Oth β (etgt ρ (.call ⟨.builtin .append, #[x, y], #[t, t]⟩)) w w' ∧ Nb s s' β β' (etgt ρ (.call ⟨.builtin .append, #[x, y], #[t, t]⟩)) w := by
        intro hxe s1 hs1 hext hnx hso olds hol hb hml hK
        subst hol
        by_cases hm : m = 0
        · subst hm
          have hn : news = [] := List.eq_nil_of_length_eq_zero (by simpa using hnl)
          subst hn
          obtain ⟨k1, k2⟩ := hs1.nilObj s.nx (s.nx + 1) (by rw [← hnx]; exact hs1.fresh.1) (by rw [← hnx]; exact hs1.fresh.2) (by omega) (by omega) ⟨e, sz, [] ++ []⟩ rfl
          refine ⟨_, .slice none 0 0, w, _, _, _, .inl rfl, hrun _ _ (fun ty => ?_), hK, k1, hext.trans (k2 _), Nat.le_succ _, .arrNil _ (by simp), fun _ _ _ => rfl, .new s.nx (fun i e hi => hso i (by simpa only [upd_ne _ _ _ e] using hi)) (fun i e => upd_ne _ _ _ e) (fun b c' hb => by simp at hb)⟩
          rw [hxe]
          rcases hsv with ⟨he, _⟩ | ⟨ad, c, vs, he, hpv, hv1, hvc⟩
          · rw [he]; simp [Builtin.append_, run_underlying t1, sizeOf, typeInfo, t2, Builtin.lenOf, Builtin.firstCells]
          · rw [he]; simp [Builtin.append_, run_underlying t1, sizeOf, typeInfo, t2, Builtin.lenOf, Builtin.firstCells, loadCells, loadCellsFrom]
        · rcases hsv with ⟨_, he⟩ | ⟨ad, c, vs, he, hpv, hv1, hvc⟩
          · exact absurd he hm
          have hpv1 : Pw w (Fr w0 F0 s1 β) β news vs := ⟨hpv.1, fun j d u h1 h2 => RV.ext hs (Nat.le_refl _) hext (hpv.2 j d u h1 h2)⟩
          refine grown s1 hs1 hext hnx hso 0 0 [] [] (by omega) (by omega) (by simp) .nil ⟨vs, hpv1, fun ty => ?_⟩ hK
          have := run_append_nil (P := P) w t ty e i zv t1 t2 t5 ad m c vs (by rw [← hpv.1, hnl, t3]) hvc (by omega) (by simp only [maxLen] at hml; omega) (by rw [t4]; omega)
          rw [hxe, he, this]
          simp
      split at h
      · obtain ⟨⟨hb, hml⟩, hK⟩ := h
        have hxe := rv_v hvx
        have := hnil hxe s hs .refl rfl (fun _ h => h) [] rfl hb hml (by simpa using hK)
        exact this
      · rename_i id n
        split at h
        · rename_i ob hob
          rcases h with h | h
          case here =>
            obtain ⟨⟨he1, he2, hle⟩, hK⟩ := h
            have hmul : (n + m) * sz = n * sz + m * sz := Nat.add_mul ..
            rcases rv_arr hvx with ⟨b, c, hbb, hlc, hxe⟩ | ⟨hbb, rfl, hxe⟩
            · rcases hs.obs id ob hob with g | ⟨b', c', cur, g1, g2, g3, g4, g5, g6, g7⟩
              · rw [g.1] at hbb; cases hbb
              rw [g1] at hbb
              simp only [Option.some.injEq, Prod.mk.injEq] at hbb
              obtain ⟨rfl, rfl⟩ := hbb
              have hmo : Nat.beq ob.elem MAPT = false := by rw [he1]; exact hmt
              rw [blk_cells hmo] at g3
              have hroom : n + m ≤ c' := by
                rw [g4, he2] at g6
                exact Nat.le_of_mul_le_mul_right (by omega : (n + m) * sz ≤ c' * sz) t9
              have place : ∀ (vs : List Value), Pw w (Fr w0 F0 s β) β news vs → ∀ (w' : World) (cur' : Array Value), BelowD b' w w' → (∀ k, k ≠ b' → w'.heap[k]? = w.heap[k]?) → w'.heap[b']? = some (.cells cur' e (0, 0)) →
                  cur'.size = cur.size → (∀ j, j < n * sz ∨ n * sz + m * sz ≤ j → cur'[j]? = cur[j]?) → (∀ (j : Nat) u, vs[j]? = some u → cur'[n * sz + j]? = some u) →
                  (∀ ty, (Builtin.append_ #[t, t] ty #[a.eval x, a.eval y]).run P w = .ok (.slice (some ⟨b', 0, none⟩) (n + m) c') w') →
                  ∃ nx v w' d s' β', (nx = .value v ∨ (nx = .skip ∧ v = undef)) ∧ (∀ (o : Oper), o.op = .call ⟨.builtin .append, #[x, y], #[t, t]⟩ → (execOp a.eval o).run P w = .ok nx w') ∧ K d s' ∧
                    SRel w0 F0 s' β' w' ∧ Ext s.nx w0 nX s β w s' β' w' ∧ s.nx ≤ s'.nx ∧ RV w' (Fr w0 F0 s' β') β' d v ∧ Oth β (etgt ρ (.call ⟨.builtin .append, #[x, y], #[t, t]⟩)) w w' ∧ Nb s s' β β' (etgt ρ (.call ⟨.builtin .append, #[x, y], #[t, t]⟩)) w := by
                intro vs hpv w' cur' hbel hoth hnew hcs hkeep hput hr
                have hvl : vs.length = m * sz := by rw [← hpv.1]; exact hnl
                obtain ⟨k1, k2⟩ := hs.rewrite id ob hob b' c' g1 w' cur' (ob.cells.take (n * sz) ++ news ++ ob.cells.drop (n * sz + m * sz)) hbel hoth (by rw [hnew, blk_cells hmo, he1]) (by rw [hcs]; exact g4)
                  (by rw [hcs]; simp only [List.length_append, List.length_take, List.length_drop, hnl]; omega) (fun j d hj => by
                    have hll : (ob.cells.take (n * sz)).length = n * sz := by simp; omega
                    rw [List.getElem?_append] at hj
                    split at hj
                    · rename_i hjA
                      rw [List.getElem?_append] at hj
                      rw [hll] at hj
                      split at hj
                      · rename_i hjl
                        have hj2 : ob.cells[j]? = some d := by rw [List.getElem?_take, if_pos hjl] at hj; exact hj
                        obtain ⟨q, hq, hr2⟩ := g7 j d hj2
                        exact ⟨q, by rw [hkeep j (.inl hjl)]; exact hq, hr2⟩
                      · rename_i hjl
                        have hjn : j - n * sz < vs.length := by rw [← hpv.1]; exact (List.getElem?_eq_some_iff.1 hj).1
                        refine ⟨vs[j - n * sz], ?_, hpv.2 _ d _ hj (List.getElem?_eq_getElem hjn)⟩
                        have := hput (j - n * sz) _ (List.getElem?_eq_getElem hjn)
                        rwa [show n * sz + (j - n * sz) = j by omega] at this
                    · rename_i hjA
                      simp only [List.length_append, hll, hnl] at hjA hj
                      rw [List.getElem?_drop, show n * sz + m * sz + (j - (n * sz + m * sz)) = j by omega] at hj
                      obtain ⟨q, hq, hr2⟩ := g7 j d hj
                      exact ⟨q, by rw [hkeep j (.inr (by omega))]; exact hq, hr2⟩)
                exact ⟨_, .slice (some ⟨b', 0, none⟩) (n + m) c', w', _, _, β, .inl rfl, hrun _ _ hr, hK, k1, k2 _, Nat.le_refl _, .arr _ _ b' c' g1 hroom, fun b2 _ h2 => hoth b2 (fun e => h2 id c' (by simp [etgt, hdx]) (by rw [e]; exact g1)), fun i b2 c2 hi hb2 _ => .inl ⟨by
                  by_cases e : i = id
                  · subst e; simp [hob]
                  · simpa only [upd_ne _ _ _ e] using hi, hb2⟩⟩
              rcases hsv with ⟨he, hm0⟩ | ⟨ad, cc, vs, he, hpv, hv1, hvc⟩
              · subst hm0
                have hn0 : news = [] := List.eq_nil_of_length_eq_zero (by simpa using hnl)
                subst hn0
                refine place [] .nil w cur (.refl _ _) (fun _ _ => rfl) (by rw [g3, he1]) rfl (fun _ _ => rfl) (fun j u h => by simp at h) (fun ty => ?_)
                rw [hxe, he]
                have hr0 : n ≤ c' := by omega
                simp [Builtin.append_, run_underlying t1, sizeOf, typeInfo, t2, Builtin.lenOf, Builtin.firstCells, hr0, storeCells]
              · have hvl : vs.length = m * sz := by rw [← hpv.1]; exact hnl
                have hfit : n * i.size + vs.length ≤ cur.size := by rw [hvl, t3, g4, he2, ← Nat.add_mul]; exact Nat.mul_le_mul_right _ hroom
                have hr := fun ty => run_append_room (P := P) w t ty e i t1 t2 b' n c' cur (by rw [g3, he1]) ad m cc vs (by rw [hvl, t3]) hvc hv1 hroom hfit
                have hl1 : n * sz + vs.length ≤ cur.toList.length := by rw [← t3]; simpa using hfit
                have hpol : (cur.toList.take (n * sz)).length = n * sz := by simp only [List.length_take]; omega
                refine place vs hpv _ (cur.toList.take (n * sz) ++ vs ++ cur.toList.drop (n * sz + vs.length)).toArray (below_setRow w b' _) (fun k hk => setRow_other w b' k _ hk) (by rw [setRow_heap w b' cur _ ob.elem _ g3, he1]) ?_ (fun j hj => ?_) (fun j u hu => ?_) (fun ty => by rw [hxe, he, hr ty, t3])
                · simp at hl1 ⊢; omega
                · simp only [List.getElem?_toArray]
                  rcases hj with hj | hj
                  · rw [List.append_assoc, List.getElem?_append_left (by omega), List.getElem?_take, if_pos hj]; simp
                  · rw [List.getElem?_append_right (by simp only [List.length_append, hpol]; omega), List.length_append, hpol, List.getElem?_drop, show n * sz + vs.length + (j - (n * sz + vs.length)) = j by omega]; simp
                · have hju := (List.getElem?_eq_some_iff.1 hu).1
                  simp only [List.getElem?_toArray]
                  rw [List.append_assoc, List.getElem?_append_right (by omega), hpol, List.getElem?_append_left (by omega)]
                  rw [show n * sz + j - n * sz = j by omega]; exact hu
            · have hc0 : ob.cells = [] := by
                rcases hs.obs id ob hob with g | ⟨b', c', cur, g1, _⟩
                · exact g.2
                · rw [g1] at hbb; cases hbb
              rw [hc0] at hle hK
              have hm0 : m = 0 := by
                simp only [List.length_nil, Nat.zero_add, Nat.le_zero, Nat.mul_eq_zero] at hle
                omega
              subst hm0
              have hn0 : news = [] := List.eq_nil_of_length_eq_zero (by simpa using hnl)
              subst hn0
              have hsame : (⟨upd s.ob id (some { ob with cells := List.take (0 * sz) [] ++ [] ++ List.drop (0 * sz + 0 * sz) [] }), s.nx⟩ : Sto) = s := by
                have h1 : ({ ob with cells := List.take (0 * sz) [] ++ [] ++ List.drop (0 * sz + 0 * sz) [] } : DObj) = ob := by
                  obtain ⟨a1, a2, a3⟩ := ob
                  simp only at hc0
                  subst hc0
                  simp
                rw [h1]
                have h2 : upd s.ob id (some ob) = s.ob := by
                  funext k
                  by_cases e : k = id
                  · subst e; simp [hob]
                  · rw [upd_ne _ _ _ e]
                rw [h2]
              rw [hsame] at hK
              refine ⟨_, .slice none 0 0, w, _, s, β, .inl rfl, hrun _ _ (fun ty => ?_), hK, hs, .refl, Nat.le_refl _, .arrNil _ hbb, fun _ _ _ => rfl, fun i b2 c2 hi hb2 _ => .inl ⟨hi, hb2⟩⟩
              rw [hxe]
              rcases hsv with ⟨he, _⟩ | ⟨ad, c, vs, he, hpv, hv1, hvc⟩
              · rw [he]; simp [Builtin.append_, run_underlying t1, sizeOf, typeInfo, t2, Builtin.lenOf, Builtin.firstCells]
              · rw [he]; simp [Builtin.append_, run_underlying t1, sizeOf, typeInfo, t2, Builtin.lenOf, Builtin.firstCells, loadCells, loadCellsFrom]
          obtain ⟨⟨he1, he2, hle, hb, hml⟩, hK⟩ := h
          have hdrop := hs.drop id
          have hdso : ∀ i, ((upd s.ob id none) i).isSome = true → (s.ob i).isSome = true := fun i hi => by
            by_cases e : i = id
            · subst e; simp at hi
            · simpa only [upd_ne _ _ _ e] using hi
          rcases rv_arr hvx with ⟨b, c, hbb, hlc, hxe⟩ | ⟨hbb, rfl, hxe⟩
          · rcases hs.obs id ob hob with g | ⟨b', c', cur, g1, g2, g3, g4, g5, g6, g7⟩
            · rw [g.1] at hbb; cases hbb
            rw [g1] at hbb
            simp only [Option.some.injEq, Prod.mk.injEq] at hbb
            obtain ⟨rfl, rfl⟩ := hbb
            have hmo : Nat.beq ob.elem MAPT = false := by rw [he1]; exact hmt
            rw [blk_cells hmo] at g3
            have hpo : Pw w (Fr w0 F0 s β) β (ob.cells.take (n * sz)) (cur.toList.take (n * sz)) := by
              refine ⟨by simp; omega, fun j d u h1 h2 => ?_⟩
              rw [List.getElem?_take] at h1 h2
              split at h1
              · rename_i hj
                obtain ⟨q, hq, hr⟩ := g7 j d h1
                rw [if_pos hj, Array.getElem?_toList, hq] at h2
                cases h2; exact hr
              · cases h1
            have hpol : (cur.toList.take (n * sz)).length = n * sz := by rw [← hpo.1]; simp; omega
            by_cases hroom : n + m ≤ c'
            · -- in place
              have place : ∀ (vs : List Value), Pw w (Fr w0 F0 s β) β news vs → ∀ (w' : World) (cur' : Array Value), BelowD b' w w' → (∀ k, k ≠ b' → w'.heap[k]? = w.heap[k]?) → w'.heap[b']? = some (.cells cur' e (0, 0)) →
                  cur'.size = cur.size → (∀ j, j < n * sz → cur'[j]? = cur[j]?) → (∀ (j : Nat) u, vs[j]? = some u → cur'[n * sz + j]? = some u) →
                  (∀ ty, (Builtin.append_ #[t, t] ty #[a.eval x, a.eval y]).run P w = .ok (.slice (some ⟨b', 0, none⟩) (n + m) c') w') →
                  ∃ nx v w' d s' β', (nx = .value v ∨ (nx = .skip ∧ v = undef)) ∧ (∀ (o : Oper), o.op = .call ⟨.builtin .append, #[x, y], #[t, t]⟩ → (execOp a.eval o).run P w = .ok nx w') ∧ K d s' ∧
                    SRel w0 F0 s' β' w' ∧ Ext s.nx w0 nX s β w s' β' w' ∧ s.nx ≤ s'.nx ∧ RV w' (Fr w0 F0 s' β') β' d v ∧ Oth β (etgt ρ (.call ⟨.builtin .append, #[x, y], #[t, t]⟩)) w w' ∧ Nb s s' β β' (etgt ρ (.call ⟨.builtin .append, #[x, y], #[t, t]⟩)) w := by
                intro vs hpv w' cur' hbel hoth hnew hcs hkeep hput hr
                obtain ⟨k1, k2⟩ := hs.retake id ob hob b' c' g1 s.nx (s.nx + 1) hs.fresh.1 hs.fresh.2 (by omega) (by omega) w' cur' ⟨e, sz, ob.cells.take (n * sz) ++ news⟩ (by simp [he2]) hbel hoth (by rw [hnew]; exact congrArg some (blk_cells hmt _).symm) (by rw [hcs]; exact g4)
                  (by rw [hcs, g4, he2]; simp only [List.length_append, List.length_take, hnl]; rw [Nat.min_eq_left hle, ← Nat.add_mul]; exact Nat.mul_le_mul_right _ hroom) (fun j d hj => by
                    rw [List.getElem?_append] at hj
                    have hll : (ob.cells.take (n * sz)).length = n * sz := by simp; omega
                    rw [hll] at hj
                    split at hj
                    · rename_i hjl
                      have hj2 : ob.cells[j]? = some d := by rw [List.getElem?_take, if_pos hjl] at hj; exact hj
                      obtain ⟨q, hq, hr2⟩ := g7 j d hj2
                      exact ⟨q, by rw [hkeep j hjl]; exact hq, hr2⟩
                    · rename_i hjl
                      have hjn : j - n * sz < vs.length := by rw [← hpv.1]; exact (List.getElem?_eq_some_iff.1 hj).1
                      refine ⟨vs[j - n * sz], ?_, hpv.2 _ d _ hj (List.getElem?_eq_getElem hjn)⟩
                      have := hput (j - n * sz) _ (List.getElem?_eq_getElem hjn)
                      rwa [show n * sz + (j - n * sz) = j by omega] at this)
                exact ⟨_, .slice (some ⟨b', 0, none⟩) (n + m) c', w', _, _, _, .inl rfl, hrun _ _ hr, hK, k1, k2 _, Nat.le_succ _, .arr _ _ b' c' (by simp) hroom, fun b2 _ h2 => hoth b2 (fun e => h2 id c' (by simp [etgt, hdx]) (by rw [e]; exact g1)), fun i b2 c2 hi hb2 _ => by
                  by_cases e : i = s.nx
                  · subst e
                    simp only [upd_same, Option.some.injEq, Prod.mk.injEq] at hb2
                    exact .inr ⟨id, c', by simp [etgt, hdx], by simp [hob], by rw [← hb2.1]; exact g1⟩
                  · exact .inl ⟨hdso i (by simpa only [upd_ne _ _ _ e] using hi), by rw [← hb2, upd_ne _ _ _ e]⟩⟩
              rcases hsv with ⟨he, hm0⟩ | ⟨ad, cc, vs, he, hpv, hv1, hvc⟩
              · subst hm0
                have hn0 : news = [] := List.eq_nil_of_length_eq_zero (by simpa using hnl)
                subst hn0
                refine place [] .nil w cur (.refl _ _) (fun _ _ => rfl) (by rw [g3, he1]) rfl (fun _ _ => rfl) (fun j u h => by simp at h) (fun ty => ?_)
                rw [hxe, he]
                have hr0 : n ≤ c' := by omega
                simp [Builtin.append_, run_underlying t1, sizeOf, typeInfo, t2, Builtin.lenOf, Builtin.firstCells, hr0, storeCells]
              · have hvl : vs.length = m * sz := by rw [← hpv.1]; exact hnl
                have hfit : n * i.size + vs.length ≤ cur.size := by rw [hvl, t3, g4, he2, ← Nat.add_mul]; exact Nat.mul_le_mul_right _ hroom
                have hr := fun ty => run_append_room (P := P) w t ty e i t1 t2 b' n c' cur (by rw [g3, he1]) ad m cc vs (by rw [hvl, t3]) hvc hv1 hroom hfit
                have hl1 : n * sz + vs.length ≤ cur.toList.length := by rw [← t3]; simpa using hfit
                refine place vs hpv _ (cur.toList.take (n * sz) ++ vs ++ cur.toList.drop (n * sz + vs.length)).toArray (below_setRow w b' _) (fun k hk => setRow_other w b' k _ hk) (by rw [setRow_heap w b' cur _ ob.elem _ g3, he1]) ?_ (fun j hj => ?_) (fun j u hu => ?_) (fun ty => by rw [hxe, he, hr ty, t3])
                · simp at hl1 ⊢; omega
                · simp only [List.getElem?_toArray]
                  rw [List.append_assoc, List.getElem?_append_left (by omega), List.getElem?_take, if_pos hj]; simp
                · have hju := (List.getElem?_eq_some_iff.1 hu).1
                  simp only [List.getElem?_toArray]
                  rw [List.append_assoc, List.getElem?_append_right (by omega), hpol, List.getElem?_append_left (by omega)]
                  rw [show n * sz + j - n * sz = j by omega]; exact hu
            · -- a new block
              rcases hsv with ⟨_, hm0⟩ | ⟨ad, cc, vs, he, hpv, hv1, hvc⟩
              · omega
              have hpo1 : Pw w (Fr w0 F0 ⟨upd s.ob id none, s.nx⟩ β) β (ob.cells.take (n * sz)) (cur.toList.take (n * sz)) := ⟨hpo.1, fun j d u h1 h2 => RV.ext hs (Nat.le_refl _) (hdrop.2 s.nx) (hpo.2 j d u h1 h2)⟩
              have hpv1 : Pw w (Fr w0 F0 ⟨upd s.ob id none, s.nx⟩ β) β news vs := ⟨hpv.1, fun j d u h1 h2 => RV.ext hs (Nat.le_refl _) (hdrop.2 s.nx) (hpv.2 j d u h1 h2)⟩
              refine grown _ hdrop.1 (hdrop.2 _) rfl hdso c' n _ _ (by omega) hml (by simp; omega) hpo1 ⟨vs, hpv1, fun ty => ?_⟩ hK
              have := run_append_grow (P := P) w t ty e i zv t1 t2 t5 ⟨b', 0, none⟩ n c' (cur.toList.take (n * sz)) (by rw [hpol, t3]) (fun j u hu => by
                  rw [List.getElem?_take] at hu
                  split at hu
                  · rw [Addr.add_lit, Nat.zero_add]; simpa [World.cell?, g3] using hu
                  · cases hu) ad m cc vs (by rw [← hpv.1, hnl, t3]) hvc (by omega) (by simp only [maxLen] at hml; omega) (by rw [t4]; exact growslice_fits (by omega) hb)
              rw [hxe, he, this]
          · simp only [Nat.zero_add] at hb hml
            exact hnil hxe _ hdrop.1 (hdrop.2 _) rfl hdso _ (by simp) hb hml hK
        · exact h.elim
      · exact h.elim
  · exact h.elim
theorem cells_zero (z : Array Value) (n : Nat) (hz : 0 < z.size) : (Builtin.zeroCells z n).toList = (List.replicate n z.toList).flatten := by
  unfold Builtin.zeroCells
  exact zeros_flat z n z.size rfl hz
theorem pw_zeros {w : World} {F : Nat → Prop} {β : Beta} {z : Array Value} (hall : z.toList.all Value.oneCell' = true) (n : Nat) : Pw w F β (List.replicate n (z.toList.map DV.v)).flatten (List.replicate n z.toList).flatten := by
  have e1 : (List.replicate n (z.toList.map DV.v)).flatten = ((List.replicate n z.toList).flatten).map .v := by
    rw [List.map_flatten, List.map_replicate]
  refine ⟨by simp [List.length_flatten], fun i d y h1 h2 => ?_⟩
  have hmem : y ∈ (List.replicate n z.toList).flatten := List.mem_of_getElem? h2
  rw [e1, List.getElem?_map, h2] at h1
  simp only [Option.map_some, Option.some.injEq] at h1
  subst h1
  obtain ⟨l, hl1, hl2⟩ := List.mem_flatten.1 hmem
  rw [List.mem_replicate] at hl1
  rw [hl1.2] at hl2
  exact .data (.v _ (List.all_eq_true.1 hall y hl2))
theorem esem_clear [Inhabited GlobS] {x : Operand} {t : TypeId} (h : evg true (ρ x) fun dx => dclear P s t dx K) : ESem P s (.call ⟨.builtin .clear, #[x], #[t]⟩) ρ K := by
  obtain ⟨h, hx⟩ := evg_sound2 _ h
  generalize hdx : str0 (ρ x) = dx at h hx
  unfold dclear at h
  split at h
  case h_2 => exact h.elim
  rename_i e sz bytes z hel
  obtain ⟨i, zv, t1, t2, t3, t4, t5, t6, t7, t8, t9⟩ := elemI_some hel
  intro w0 F0 β w a hs hρ
  have hvx := hx rfl _ _ _ _ (hρ x)
  have hrun : ∀ (v : Value) (w' : World), (∀ ty, (Builtin.clear_ #[t] ty #[a.eval x]).run P w = .ok v w') → ∀ (o : Oper), o.op = .call ⟨.builtin .clear, #[x], #[t]⟩ → (execOp a.eval o).run P w = .ok (.value v) w' := fun v w' hr o ho => by
    simp only [execOp, ho, resolve, invoke, builtin, Sem.run_bind, Sem.run_pure, Result.andThen_ok, List.map_toArray, List.map_cons, List.map_nil, hr]
  have main : ∀ (id off len : Nat) (ob : DObj) (ad : Option Addr) (n : Nat), s.ob id = some ob → Nat.beq ob.elem MAPT = false → etgt ρ (.call ⟨.builtin .clear, #[x], #[t]⟩) = some id → a.eval x = .slice ad len n →
      (0 < len → ∃ b c, β id = some (some (b, c)) ∧ ad = some ⟨b, off, none⟩) → ob.sz = sz → off + len * sz ≤ ob.cells.length →
      K (.tup []) ⟨upd s.ob id (some { ob with cells := ob.cells.take off ++ (List.replicate len z).flatten ++ ob.cells.drop (off + len * sz) }), s.nx⟩ →
      ∃ nx v w' d s' β', (nx = .value v ∨ (nx = .skip ∧ v = undef)) ∧ (∀ (o : Oper), o.op = .call ⟨.builtin .clear, #[x], #[t]⟩ → (execOp a.eval o).run P w = .ok nx w') ∧ K d s' ∧
        SRel w0 F0 s' β' w' ∧ Ext s.nx w0 nX s β w s' β' w' ∧ s.nx ≤ s'.nx ∧ RV w' (Fr w0 F0 s' β') β' d v ∧ Oth β (etgt ρ (.call ⟨.builtin .clear, #[x], #[t]⟩)) w w' ∧ Nb s s' β β' (etgt ρ (.call ⟨.builtin .clear, #[x], #[t]⟩)) w := by
    intro id off len ob ad n hob hm htg he q1 hsz hle hK
    by_cases h0 : 0 < len
    · obtain ⟨b, c, hb, rfl⟩ := q1 h0
      rcases hs.obs id ob hob with g | ⟨b', c', cur, g1, g2, g3, g4, g5, g6, g7⟩
      · rw [g.1] at hb; cases hb
      rw [g1] at hb
      simp only [Option.some.injEq, Prod.mk.injEq] at hb
      obtain ⟨rfl, rfl⟩ := hb
      rw [blk_cells hm] at g3
      have hzl : (List.replicate len zv.cells.toList).flatten.length = len * sz := by simp [List.length_flatten, t8]
      have hpz : Pw w (Fr w0 F0 s β) β (List.replicate len z).flatten (List.replicate len zv.cells.toList).flatten := by rw [t6]; exact pw_zeros t7 len
      have hcl : ob.cells.length ≤ cur.toList.length := by simpa using g6
      have hone : ∀ v ∈ (List.replicate len zv.cells.toList).flatten, v.oneCell' = true := fun v hv => by
        obtain ⟨l, hl1, hl2⟩ := List.mem_flatten.1 hv
        rw [List.mem_replicate] at hl1
        rw [hl1.2] at hl2
        exact List.all_eq_true.1 t7 v hl2
      have hst := run_storeCells_at P b' off ob.elem (List.replicate len zv.cells.toList).flatten 0 cur w g3 (by rw [hzl]; simp at hcl; omega) hone
      simp only [Nat.add_zero] at hst
      rw [hzl] at hst
      have hpl : (cur.toList.take off).length = off := by simp only [List.length_take]; omega
      have hpl2 : (ob.cells.take off).length = off := by simp only [List.length_take]; omega
      have hsz2 : (cur.toList.take off ++ (List.replicate len zv.cells.toList).flatten ++ cur.toList.drop (off + len * sz)).toArray.size = cur.size := by
        simp only [List.size_toArray, List.length_append, hpl, hzl, List.length_drop]
        have : cur.toList.length = cur.size := by simp
        omega
      obtain ⟨k1, k2⟩ := hs.rewrite id ob hob b' c' g1 (w.setRow b' (cur.toList.take off ++ (List.replicate len zv.cells.toList).flatten ++ cur.toList.drop (off + len * sz)).toArray) _ (ob.cells.take off ++ (List.replicate len z).flatten ++ ob.cells.drop (off + len * sz))
        (below_setRow w b' _) (fun k hk => setRow_other w b' k _ hk) (by rw [blk_cells hm]; exact setRow_heap w b' cur _ _ _ g3) (by rw [hsz2]; exact g4) (by
          rw [hsz2]; simp only [List.length_append, hpl2, List.length_drop, hpz.1, hzl]
          have : cur.toList.length = cur.size := by simp
          omega) (fun j d hj => by
          have hzl' : (List.replicate len z).flatten.length = len * sz := by rw [hpz.1, hzl]
          simp only [List.getElem?_toArray]
          rw [List.getElem?_append] at hj ⊢
          simp only [List.length_append, hpl, hpl2, hzl, hzl'] at hj ⊢
          split at hj
          · rename_i hjA
            rw [if_pos hjA]
            rw [List.getElem?_append] at hj ⊢
            simp only [hpl, hpl2] at hj ⊢
            split at hj
            · rename_i hjl
              rw [if_pos hjl]
              rw [List.getElem?_take, if_pos hjl] at hj ⊢
              obtain ⟨q, hq, hr2⟩ := g7 j d hj
              exact ⟨q, by simpa using hq, hr2⟩
            · rename_i hjl
              rw [if_neg hjl]
              have hjn : j - off < (List.replicate len zv.cells.toList).flatten.length := by rw [hzl]; omega
              exact ⟨_, List.getElem?_eq_getElem hjn, hpz.2 _ d _ hj (List.getElem?_eq_getElem hjn)⟩
          · rename_i hjA
            rw [if_neg hjA]
            rw [List.getElem?_drop, show off + len * sz + (j - (off + len * sz)) = j by omega] at hj ⊢
            obtain ⟨q, hq, hr2⟩ := g7 j d hj
            exact ⟨q, by simpa using hq, hr2⟩)
      refine ⟨_, .tuple #[], _, _, _, β, .inl rfl, hrun _ _ (fun ty => ?_), hK, k1, k2 _, Nat.le_refl _, .tup [] [] rfl (fun i d x h => by simp at h), fun b2 _ h2 => setRow_other w b' b2 _ (fun e => h2 id c' htg (by rw [e]; exact g1)), fun i b2 c2 hi hb2 _ => .inl ⟨by
        by_cases e : i = id
        · subst e; simp [hob]
        · simpa only [upd_ne _ _ _ e] using hi, hb2⟩⟩
      obtain ⟨k, rfl⟩ : ∃ k, len = k + 1 := ⟨len - 1, by omega⟩
      rw [he]
      have hzc := cells_zero zv.cells (k + 1) (by omega)
      simp [Builtin.clear_, run_underlying t1, zeroValue, typeInfo, t2, t5, hzc, hst]
    · have hl0 : len = 0 := by omega
      subst hl0
      have hsame : (⟨upd s.ob id (some { ob with cells := ob.cells.take off ++ (List.replicate 0 z).flatten ++ ob.cells.drop (off + 0 * sz) }), s.nx⟩ : Sto) = s := by
        have h1 : ({ ob with cells := ob.cells.take off ++ (List.replicate 0 z).flatten ++ ob.cells.drop (off + 0 * sz) } : DObj) = ob := by simp
        rw [h1]
        have h2 : upd s.ob id (some ob) = s.ob := by
          funext k
          by_cases e : k = id
          · subst e; simp [hob]
          · rw [upd_ne _ _ _ e]
        rw [h2]
      rw [hsame] at hK
      refine ⟨_, .tuple #[], w, _, s, β, .inl rfl, hrun _ _ (fun ty => ?_), hK, hs, .refl, Nat.le_refl _, .tup [] [] rfl (fun i d x h => by simp at h), fun _ _ _ => rfl, fun i b2 c2 hi hb2 _ => .inl ⟨hi, hb2⟩⟩
      rw [he]
      cases ad <;> simp [Builtin.clear_, run_underlying t1]
  split at h
  · rename_i id off len
    split at h
    · rename_i ob hob
      obtain ⟨hm, ⟨h1, h2⟩, hK⟩ := cellsO_is h
      obtain ⟨ad, n, he, q1, q2, q3⟩ := rv_sub hvx
      exact main id off len ob ad n hob hm (by simp [etgt, hdx]) he q1 h1 h2 hK
    · exact h.elim
  · rename_i id len
    split at h
    · rename_i ob hob
      obtain ⟨hm, ⟨h1, h2⟩, hK⟩ := cellsO_is h
      have hK' : K (.tup []) ⟨upd s.ob id (some { ob with cells := ob.cells.take 0 ++ (List.replicate len z).flatten ++ ob.cells.drop (0 + len * sz) }), s.nx⟩ := by simpa using hK
      rcases rv_arr hvx with ⟨b, c, hb, hlc, he⟩ | ⟨hb, rfl, he⟩
      · exact main id 0 len ob _ c hob hm (by simp [etgt, hdx]) he (fun _ => ⟨b, c, hb, rfl⟩) h1 (by omega) hK'
      · exact main id 0 0 ob _ 0 hob hm (by simp [etgt, hdx]) he (fun h => absurd h (by omega)) h1 (by omega) hK'
    · exact h.elim
  · exact h.elim
theorem esem_makeSlice [Inhabited GlobS] {t : TypeId} {x y : Operand} (h : de P s ρ (.makeSlice t x y) K) : ESem P s (.makeSlice t x y) ρ K := by
  simp only [de] at h
  obtain ⟨dl, h', hl⟩ := evg_sound _ h
  clear h
  obtain ⟨dc, h, hc⟩ := evg_sound _ h'
  clear h'
  split at h
  · rename_i e sz bytes z hel
    obtain ⟨hm, h2⟩ := cellsO_is h
    clear h
    have h := h2
    clear h2
    split at h
    · rename_i k1 l k2 c
      obtain ⟨⟨h0, hlc, hb, hmx⟩, h⟩ := h
      obtain ⟨i, zv, g1, g2, g3, g4, g5, g6, g7, g8, g9⟩ := elemI_some hel
      intro w0 F0 β w a hs hρ
      have hvl := rv_v (hl rfl _ _ _ _ (hρ x))
      have hvc := rv_v (hc rfl _ _ _ _ (hρ y))
      have hz := zeros_flat zv.cells c.toNat sz g8 g9
      have hpz : Pw w (Fr w0 F0 s β) β (List.replicate c.toNat z).flatten (madeCells zv.cells (c.toNat * sz)).toList := by
        have hz' : (madeCells zv.cells (c.toNat * sz)).toList = (List.replicate c.toNat zv.cells.toList).flatten := by
          unfold madeCells
          rw [g8]; exact hz
        rw [hz', g6]
        exact pw_zeros g7 _
      have hsz : (madeCells zv.cells (c.toNat * sz)).size = c.toNat * sz := size_madeCells _ _
      obtain ⟨β', hb', g1', g2', gn⟩ := hs.newOb ⟨e, sz, (List.replicate c.toNat z).flatten⟩ hm (madeCells zv.cells (c.toNat * sz)) c.toNat hsz (by simp only [maxLen]; omega) (by have := hpz.1; simp only [Array.length_toList] at this; show (List.replicate c.toNat z).flatten.length ≤ _; omega) (pw_cur (by simpa using hpz))
      refine ⟨_, .slice (some ⟨w.heap.size, 0, none⟩) l.toNat c.toNat, _, _, _, β', .inl rfl, fun o ho => ?_, h, g1', g2' _, by simp [Dl.newOb], .arr _ _ _ _ hb' (by omega), .alloc _ _, gn _⟩
      have hr := run_make (P := P) w t e i zv g1 g2 g5 k1 k2 l c h0 hlc (by rw [g4, Int.mul_comm]; exact hb) hmx
      rw [g3] at hr
      simp only [execOp, ho, hvl, hvc, Sem.run_bind, hr]
      rfl
    · exact h.elim
  · exact h.elim
theorem entsOf_flat : ∀ es : List MapEntry, entsOf (es.flatMap fun e => [e.key, e.val, .int .i64 e.born]) = es
  | [] => rfl
  | e :: es => by
    show MapEntry.mk e.key e.val (Int.toNat (e.born : Int)) :: entsOf (es.flatMap fun e => [e.key, e.val, .int .i64 e.born]) = _
    rw [entsOf_flat es, Int.toNat_natCast]
theorem blk_ents (es : Array MapEntry) (clk : Nat) : blk #[.agg (#[.int .i64 clk] ++ (es.toList.flatMap fun e => [e.key, e.val, .int .i64 e.born]).toArray)] MAPT = .map es clk := by
  show mapOf (#[Value.int .i64 clk] ++ (es.toList.flatMap fun e => [e.key, e.val, .int .i64 e.born]).toArray).toList = _
  rw [Array.toList_append, List.toList_toArray]
  show Obj.map (entsOf (es.toList.flatMap fun e => [e.key, e.val, .int .i64 e.born])).toArray (Int.toNat (clk : Int)) = _
  rw [entsOf_flat, Int.toNat_natCast, Array.toArray_toList]
theorem esem_makeMap [Inhabited GlobS] {t : TypeId} (h : de P s ρ (.makeMap t none) K) : ESem P s (.makeMap t none) ρ K := by
  simp only [de] at h
  intro w0 F0 β w a hs hρ
  obtain ⟨h1, h2⟩ := hs.fresh
  obtain ⟨k1, k2⟩ := hs.alloc s.nx h1 h2 (s.nx + 1) (by omega) (by omega) ⟨MAPT, 1, [.agg [.dead]]⟩ #[.agg (#[.int .i64 (0 : Nat)] ++ ((#[] : Array MapEntry).toList.flatMap fun e => [e.key, e.val, .int .i64 e.born]).toArray)] 1 rfl (by simp [maxLen]) (Nat.le_refl _) (fun j d hj => by
    match j, hj with
    | 0, hj =>
      cases hj
      exact ⟨_, rfl, .agg [.dead] [.int .i64 (0 : Nat)] rfl fun i d x e1 e2 => by
        match i, e1 with
        | 0, e1 => cases e1; exact .dead _⟩)
  rw [blk_ents #[] 0] at k1 k2
  refine ⟨_, .map (some w.heap.size), _, _, _, _, .inl rfl, fun o ho => ?_, h, k1, k2 _, by simp [Dl.newOb], .mo _ _ 1 (by simp), .alloc _ _, .new s.nx (fun i e hi => ?_) (fun i e => upd_ne _ _ _ e) (fun b c' hb => ?_)⟩
  · simp only [execOp, ho]
    rfl
  · simp only [Dl.newOb, upd_ne _ _ _ e] at hi; exact hi
  · simp at hb; omega
theorem de_sound [Inhabited GlobS] (op : Op) (h : de P s ρ op K) : ESem P s op ρ K := by
  unfold de at h
  split at h
  · exact esem_alloc (by unfold de; exact h)
  · exact esem_box (by unfold de; exact h)
  · exact esem_buildSlice (by unfold de; exact h)
  · exact esem_makeSlice (by unfold de; exact h)
  · exact esem_store (by unfold de; exact h)
  · rename_i c
    obtain ⟨callee, args, ts⟩ := c
    split at h
    · rename_i x y t t' h1 h2 h3
      simp only at h1 h2 h3
      cases e : Nat.beq t t' with
      | true =>
        rw [e] at h
        obtain ⟨rfl, h⟩ := h
        rw [h1, arr2 h2, arr2 h3]
        exact esem_append h
      | false => rw [e] at h; exact h
    · rename_i x t h1 h2 h3
      simp only at h1 h2 h3
      rw [h1, arr1 h2, arr1 h3]
      exact esem_clear h
    · exact h
  · exact esem_makeMap (by unfold de; exact h)
  · exact h
  · exact h.elim
end
end Go.Dl
namespace Go.Dl
open Go Go.RowKit
def Wd (r : Option Nat) : Fence := { Fence.wide with round := r }
theorem wd_round (r : Option Nat) : (Wd r).round = r := rfl
theorem stepsWd {P : Program} {r : Option Nat} {m m' : Machine} (h : Steps P m m') : StepsIn (Machine.fenced P (Wd r)) P m m' := stepsIn_wide.2 h
theorem callsWd {P : Program} {r : Option Nat} {n : Nat} {f : FuncId} {args : Array Value} {w : World} {R : Ending → World → Prop} (h : Calls P f args w R) : CallsIn (Wd r) n P f args w R :=
  (callsIn_wide (n := n)).2 h
theorem callsOfWd {P : Program} {r : Option Nat} {n : Nat} {f : FuncId} {args : Array Value} {w : World} {R : Ending → World → Prop} (h : CallsIn (Wd r) n P f args w R) : Calls P f args w R :=
  (callsIn_wide (n := n)).1 h
def Plain (Q : Exit → Act → World → Prop) : Exit → Act → World → Prop
  | .panic _, _, _ | .outgrown, _, _ => False
  | e, a, w => Q e a w
theorem Plain.imp {Q : Exit → Act → World → Prop} {e : Exit} {a : Act} {w : World} (h : Plain Q e a w) : Q e a w := by
  cases e <;> first | exact h | exact h.elim
theorem plain_lets {Q : Exit → Act → World → Prop} (h : LetsOut (Plain Q)) : False := by
  obtain ⟨a, w, h⟩ := h; exact h
def noDefer (o : Oper) : Bool := match o.op with | .defer _ => false | _ => true
theorem semAt_eq {o : Oper} (h : noDefer o = true) (r : Option Nat) (ρ : Operand → Value) : o.semAt r ρ = execOp ρ o := by
  unfold Oper.semAt
  split
  · rename_i h1; unfold noDefer at h; rw [h1] at h; cases h
  · rfl
theorem wpIn_of_wp {P : Program} {r : Option Nat} {o : Oper} {a : Act} {w : World} {next next' : Act → World → Prop} {Q : Exit → Act → World → Prop} (hd : noDefer o = true) (h : o.wp P a w next (Plain Q))
    (hn : ∀ a w, next a w → next' a w) : o.wpIn (Wd r) 0 P a w next' Q := by
  refine ⟨fun _ _ => trivial, ?_⟩
  rw [wd_round, semAt_eq hd]
  unfold Oper.wp at h
  cases hres : (execOp a.eval o).run P w with
  | ok x w1 =>
    rw [hres] at h
    match x, h with
    | .value v, h => exact hn _ _ h
    | .skip, h => exact hn _ _ h
    | .defer d, h => exact hn _ _ h
    | .enter f args, h =>
      refine ⟨(fun e => by cases e), (callsWd h).mono fun e w2 hq => ?_⟩
      cases e with
      | returned v => exact hn _ _ hq
      | panicked ch => exact hq.elim
      | outgrown => exact (plain_lets hq).elim
    | .row row args, h =>
      refine ⟨(fun e => by cases e), fun c cs _ => ?_⟩
      obtain ⟨v, w', r1, s⟩ := h c cs
      exact ⟨v, w', hn _ _ r1, stepsWd s⟩
    | .round .., h => exact h.elim
    | .recover, h => exact h.elim
    | .spawn .., h => exact h.elim
    | .comm .., h => exact h.elim
  | halt x w1 =>
    rw [hres] at h
    cases x with
    | panic v => exact h.elim
    | _ => exact h.elim
theorem wpOpsIn_of {P : Program} {r : Option Nat} {ops : Array Oper} {Q : Exit → Act → World → Prop} (hnd : ∀ o ∈ ops.toList, noDefer o = true) (l : List Nat) : ∀ {a : Act} {w : World}, wpOps P ops (Plain Q) l a w → wpOpsIn (Wd r) 0 P ops Q l a w := by
  induction l with
  | nil => intro a w h; exact Plain.imp h
  | cons i l ih =>
    intro a w h
    unfold wpOps at h
    unfold wpOpsIn
    cases ho : ops[i]? with
    | none => simp only [ho] at h ⊢; exact ih h
    | some o =>
      simp only [ho] at h ⊢
      split
      · rename_i hw
        rw [if_pos hw] at h
        rcases h with h | h
        · exact wpIn_of_wp (hnd o (by simpa using Array.mem_of_getElem? ho)) h fun _ _ h => ih h
        · exact (plain_lets h.2).elim
      · rename_i hw
        rw [if_neg hw] at h
        exact ⟨fun _ _ => trivial, ih h⟩
theorem wpIn_draw {P : Program} {r : Option Nat} {id : Nat} {ops : Array Oper} {Q : Exit → Act → World → Prop} {a : Act} {w : World} (hnd : ∀ o ∈ ops.toList, noDefer o = true)
    (h : ∀ t, wpOps P ops (Plain Q) (Region.schedule (P.follows .mixedOrders) ops t) a { w with drawn := w.drawn + 1 }) : (Code.region id ops true).wpIn (Wd r) 0 P Q a w :=
  wpIn_region_draw fun t => wpOpsIn_of hnd _ (h t)
theorem wpIn_any {P : Program} {r : Option Nat} {id : Nat} {ops : Array Oper} {Q : Exit → Act → World → Prop} {a : Act} {w : World} (hnd : ∀ o ∈ ops.toList, noDefer o = true) (hm : P.follows .mixedOrders = true)
    (h : wpAny P .any ops (Plain Q) ops.size (Array.replicate ops.size false) a { w with drawn := w.drawn + 1 }) : (Code.region id ops true).wpIn (Wd r) 0 P Q a w :=
  wpIn_draw hnd fun t => by
    simp only [Region.schedule, hm, Bool.true_or, if_true]
    exact wpAny_sound ops.size t _ a _ h
theorem wpIn_held {P : Program} {r : Option Nat} {id : Nat} {ops : Array Oper} {Q : Exit → Act → World → Prop} {S : World → Prop} {a : Act} {w : World} (hnd : ∀ o ∈ ops.toList, noDefer o = true) (hm : P.follows .mixedOrders = true)
    (h : wpAnyH P .any ops (Plain Q) S ops.size (Array.replicate ops.size false) a { w with drawn := w.drawn + 1 }) : (Code.region id ops true).wpIn (Wd r) 0 P Q a w :=
  wpIn_any hnd hm (wpAny_of_held _ _ _ _ h)
theorem wpIn_quiet {P : Program} {r : Option Nat} {id : Nat} {ops : Array Oper} {C : World → Prop} {Q : Exit → Act → World → Prop} {a : Act} {w : World} (hnd : ∀ o ∈ ops.toList, noDefer o = true) (hm : P.follows .mixedOrders = true)
    (hB : Region.lexB .any ops = true) (hC : C { w with drawn := w.drawn + 1 }) (h : wpQuiet P ops C (fun a' => ∀ w', C w' → Q .normal a' w') ops.toList a) : (Code.region id ops true).wpIn (Wd r) 0 P Q a w := by
  simp only [Region.lexB, Bool.and_eq_true] at hB
  refine wpIn_any hnd hm (wpAny_of_quiet (Q := fun a' => ∀ w', C w' → Q .normal a' w') (fun a' w' hw' h => (show Plain Q .normal a' w' from h w' hw')) _ _ _ _ hC ?_)
  have := wpAnyQ_lex (C := C) (md := .any) hB.1 ops.toList 0 (Array.replicate ops.size false) a (by simp) (by simpa using hB.2) h
  simpa using this
theorem wpIn_ghost {P : Program} {F : Fence} {m : Nat} {Q : Exit → Act → World → Prop} {a : Act} {w : World} {c : Code} (I : Nat → Act → World → Prop) (n₀ : Nat) (h₀ : I n₀ a w)
    (round : ∀ n a w, I n a w → c.wpIn F m P (Exit.then (fun a' w' => ∃ n', n' < n ∧ I n' a' w') Q) a w) : (Code.loop c).wpIn F m P Q a w := by
  refine wpIn_loop (fun a w => ∃ n, I n a w) (fun a w => leastOf (fun n => I n a w)) ⟨n₀, h₀⟩ ?_
  intro a w hI
  refine wpIn_mono (round _ a w (leastOf_spec hI).1) ?_
  intro e a' w' hq
  cases e with
  | normal =>
    obtain ⟨n', hlt, hI'⟩ := hq
    exact show (∃ n, I n a' w') ∧ leastOf (fun n => I n a' w') < leastOf (fun n => I n a w) from ⟨⟨n', hI'⟩, Nat.lt_of_le_of_lt ((leastOf_spec ⟨n', hI'⟩).2 n' hI') hlt⟩
  | _ => exact hq
section
variable {F : Fence} {n : Nat} {P : Program} {Q : Exit → Act → World → Prop} {a : Act} {w : World} {b : Frame} {k : List Item} {cs : List Frame}
theorem stepR_scope {c : Code} : step P (lone (b.atR a (.code (.scope c) :: k)) cs w) = .next (lone (b.atR a (.code c :: .inScope c :: k)) cs w) :=
  step_lone_go (by simp [stepG, stepG.exec, Frame.atR])
theorem stepR_inScope {c : Code} : step P (lone (b.atR a (.inScope c :: k)) cs w) = .next (lone (b.atR a k) cs w) :=
  step_lone_go (by simp [stepG, stepG.exec, Frame.atR])
theorem wpIn_scope_straight {c : Code} (h : c.wpIn F n P (Exit.noGoto Q) a w) : (Code.scope c).wpIn F n P Q a w := by
  intro b k cs hro hb hr
  have h0 : (lone (b.atR a (.code (.scope c) :: k)) cs w).fenced P F := fenced_calm hb hr rfl
  obtain ⟨e, a₁, w₁, hq, harr⟩ := h b (.inScope c :: k) cs hro hb hr
  cases e with
  | normal => exact ⟨.normal, a₁, w₁, hq, .head h0 stepR_scope (StepsIn.trans harr (.one (fenced_calm hb hr rfl) stepR_inScope))⟩
  | exit id => exact ⟨.exit id, a₁, w₁, hq, .of_steps (.one h0 stepR_scope) ⟨fun k' hk => harr.1 k' (by simp [exitTo, hk]), fun hr' hk => harr.2 hr' (by simp [exitTo, hk])⟩⟩
  | goto l => exact hq.elim
  | ret => exact ⟨.ret, a₁, w₁, hq, .of_steps (.one h0 stepR_scope) harr⟩
  | panic ch => exact ⟨.panic ch, a₁, w₁, hq, .of_steps (.one h0 stepR_scope) harr⟩
  | outgrown => exact ⟨.outgrown, a₁, w₁, hq, .of_steps (.one h0 stepR_scope) harr⟩
end
section
variable {P : Program} {r : Option Nat} {o : Oper} {a : Act} {w w' : World} {next : Act → World → Prop} {Q : Exit → Act → World → Prop}
theorem opIn_value {v : Value} (hd : noDefer o = true) (h : (execOp a.eval o).run P w = .ok (.value v) w') (hn : next (a.put o.dst v) w') : o.wpIn (Wd r) 0 P a w next Q :=
  ⟨fun _ _ => trivial, by rw [wd_round, semAt_eq hd, h]; exact hn⟩
theorem opIn_skip (hd : noDefer o = true) (h : (execOp a.eval o).run P w = .ok .skip w') (hn : next (a.put o.dst undef) w') : o.wpIn (Wd r) 0 P a w next Q :=
  ⟨fun _ _ => trivial, by rw [wd_round, semAt_eq hd, h]; exact hn⟩
theorem opIn_enter {f : FuncId} {args : Array Value} (hd : noDefer o = true) (h : (execOp a.eval o).run P w = .ok (.enter f args) w') (hn : Calls P f args w' fun e w'' => ∃ v, e = .returned v ∧ next (a.put o.dst v) w'') : o.wpIn (Wd r) 0 P a w next Q := by
  refine ⟨fun _ _ => trivial, ?_⟩
  rw [wd_round, semAt_eq hd, h]
  refine ⟨(fun e => by cases e), (callsWd hn).mono fun e w2 ⟨v, he, hq⟩ => ?_⟩
  subst he
  exact hq
theorem opIn_round {l : Nat} {f : FuncId} {tmps : Array Value} {assign body : Code} (hd : noDefer o = true) (h : (execOp a.eval o).run P w = .ok (.round l f tmps assign body) w')
    (hn : RoundIn (Wd r) 0 P l f tmps assign body w' fun e w'' => ∃ v, e = .returned v ∧ next (a.put o.dst v) w'') : o.wpIn (Wd r) 0 P a w next Q := by
  refine ⟨fun _ _ => trivial, ?_⟩
  rw [wd_round, semAt_eq hd, h]
  refine ⟨(fun e => by cases e), hn.mono fun e w2 ⟨v, he, hq⟩ => ?_⟩
  subst he
  exact hq
end
def listIn (r : Option Nat) (P : Program) (ops : Array Oper) (Q : Exit → Act → World → Prop) : List Oper → Act → World → Prop
  | [], a, w => Q .normal a w
  | o :: rest, a, w => if Region.wanted o (yielded ops a.tmps) then o.wpIn (Wd r) 0 P a w (listIn r P ops Q rest) Q else listIn r P ops Q rest (a.put o.dst undef) w
theorem opsIn_eq {P : Program} {r : Option Nat} {ops : Array Oper} {Q : Exit → Act → World → Prop} (l : List Oper) : ∀ (k : Nat) (a : Act) (w : World), (∀ (j : Nat), l[j]? = ops[k + j]?) → listIn r P ops Q l a w → wpOpsIn (Wd r) 0 P ops Q (List.range' k l.length) a w := by
  induction l with
  | nil => intro k a w _ h; exact h
  | cons o l ih =>
    intro k a w hl h
    have h0 : ops[k]? = some o := by have := hl 0; simpa using this.symm
    have hl' : ∀ (j : Nat), l[j]? = ops[k + 1 + j]? := fun j => by
      have := hl (j + 1)
      rw [show k + (j + 1) = k + 1 + j by omega] at this
      simpa using this
    show wpOpsIn (Wd r) 0 P ops Q (k :: List.range' (k + 1) l.length) a w
    unfold wpOpsIn
    simp only [h0]
    unfold listIn at h
    split
    · rename_i hw
      rw [if_pos hw] at h
      exact ⟨h.1, by
        have h2 := h.2
        revert h2
        generalize (o.semAt (Wd r).round a.eval).run P w = res
        intro h2
        match res, h2 with
        | .ok (.value v) w', h2 => exact ih _ _ _ hl' h2
        | .ok .skip w', h2 => exact ih _ _ _ hl' h2
        | .ok (.defer d) w', h2 => exact ih _ _ _ hl' h2
        | .ok (.enter f args) w', h2 => exact ⟨h2.1, h2.2.mono fun e w2 hq => by cases e with | returned v => exact ih _ _ _ hl' hq | panicked ch => exact hq | outgrown => exact hq⟩
        | .ok (.row row args) w', h2 => exact ⟨h2.1, h2.2.mono fun v w2 hq => ih _ _ _ hl' hq⟩
        | .ok (.round l2 f tmps as b) w', h2 => exact ⟨h2.1, h2.2.mono fun e w2 hq => by cases e with | returned v => exact ih _ _ _ hl' hq | panicked ch => exact hq | outgrown => exact hq⟩
        | .halt (.panic v) w', h2 => exact h2⟩
    · rename_i hw
      rw [if_neg hw] at h
      exact ⟨fun _ _ => trivial, ih _ _ _ hl' h⟩
theorem wpIn_list {P : Program} {r : Option Nat} {id : Nat} {ops : Array Oper} {Q : Exit → Act → World → Prop} {a : Act} {w : World} (h : listIn r P ops Q ops.toList a w) : (Code.region id ops false).wpIn (Wd r) 0 P Q a w :=
  wpIn_region (by
    have := opsIn_eq ops.toList 0 a w (fun j => by simp) h
    rw [List.range_eq_range', ← Array.length_toList]; exact this)
end Go.Dl
namespace Go.Dl
open Go Go.RowKit
inductive DExit where
  | normal
  | exit (id : Nat)
  | goto (l : Nat)
  | ret
structure Base where
  n : Nat
  c : List DExit
instance (k : Nat) : OfNat Base k := ⟨⟨k, []⟩⟩
structure St where
  base : Base
  tm : Nat → DV
  s : Sto
def ev (tm : Nat → DV) : Operand → DV
  | .tmp t => tm t
  | .const x => if x.oneCell' = true then .v x else .dead
  | .global g => .v (.pointer (some ⟨g, 0, none⟩))
  | .func f => .clo (.func f) [] []
def St.put (st : St) (dst : Option Tmp) (d : DV) : St :=
  match dst with
  | some t => { st with tm := upd st.tm t d }
  | none => st
def St.setS (st : St) (s : Sto) : St := { st with s := s }
def Own (w0 : World) (s : Sto) (β : Beta) (w : World) (b : Nat) : Prop := b < w.heap.size ∧ w0.heap.size ≤ b ∧ Un w0 s β b
theorem Own.ext {w0 : World} {X : Nat → Prop} {s s' : Sto} {β β' : Beta} {w w' : World} {b n : Nat} (h : Own w0 s β w b) (hx : ¬ X b) (he : Ext n w0 X s β w s' β' w') : Own w0 s' β' w' b ∧ w'.heap[b]? = w.heap[b]? := by
  obtain ⟨h1, h2⟩ := he.fr b h.1 hx h.2.2
  exact ⟨⟨Nat.lt_of_lt_of_le h.1 he.size, h.2.1, h1⟩, h2⟩
def Keep (X : Nat → Prop) (w0 : World) (s : Sto) (β : Beta) (w : World) (s' : Sto) (β' : Beta) (w' : World) : Prop :=
  ∀ b r, X b → Own w0 s β w b → w.heap[b]? = some (.loop r) → Own w0 s' β' w' b ∧ w'.heap[b]? = some (.loop r)
structure Org where
  N : Nat
  w0 : World
  F0 : Nat → Prop
  n : Nat
  s : Sto
  β : Beta
  w : World
  X : Nat → Prop
  hX : ∀ b, F0 b → ¬ X b
  hXs : ∀ b, X b → b < w.heap.size
  hr : Sto → Beta → World → List DExit → Prop
  hrx : ∀ s β w s' β' w' c, hr s β w c → Keep X w0 s β w s' β' w' → hr s' β' w' c
  rd : Option Nat
def DExit.real : DExit → Exit
  | .normal => .normal
  | .exit id => .exit id
  | .goto l => .goto l
  | .ret => .ret
def jumpOf : DExit → Option Code
  | .normal => none
  | .ret => some .ret
  | .exit k => some (.exit k)
  | .goto k => some (.goto k)
structure DfOk (G : Org) (s : Sto) (β : Beta) (w : World) (ds : List Deferred) : Prop where
  all : ∀ d, d ∈ ds → ∃ r, d = { target := .collected r, args := #[] } ∧ Own G.w0 s β w r ∧ ¬ G.X r ∧ G.w.heap.size ≤ r ∧ w.heap[r]? = some (.deferred (some []))
  nd : ds.Pairwise (· ≠ ·)
  rd : G.rd ≠ none → ds = []
def RdOk (G : Org) (s : Sto) (β : Beta) (w : World) : Prop :=
  match G.rd with
  | none => True
  | some l => Own G.w0 s β w l ∧ ¬ G.X l ∧ ∃ r, w.heap[l]? = some (.loop r)
theorem Ext.keep {n : Nat} {w0 : World} {X : Nat → Prop} {s s' : Sto} {β β' : Beta} {w w' : World} (he : Ext n w0 nX s β w s' β' w') : Keep X w0 s β w s' β' w' := fun b r _ h1 h2 => by
  obtain ⟨k1, k2⟩ := h1.ext (fun h => h) he
  exact ⟨k1, k2.trans h2⟩
theorem DfOk.ext {G : Org} {X : Nat → Prop} (hX : ∀ b, X b → G.X b) {s s' : Sto} {β β' : Beta} {w w' : World} {n : Nat} {ds : List Deferred} (h : DfOk G s β w ds) (he : Ext n G.w0 X s β w s' β' w') : DfOk G s' β' w' ds := ⟨fun d hd => by
  obtain ⟨r, e, h1, h2, h3, h4⟩ := h.all d hd
  obtain ⟨k1, k2⟩ := h1.ext (fun h => h2 (hX _ h)) he
  exact ⟨r, e, k1, h2, h3, k2.trans h4⟩, h.nd, h.rd⟩
theorem RdOk.ext {G : Org} {X : Nat → Prop} (hX : ∀ b, X b → G.X b) {s s' : Sto} {β β' : Beta} {w w' : World} {n : Nat} (h : RdOk G s β w) (he : Ext n G.w0 X s β w s' β' w') : RdOk G s' β' w' := by
  unfold RdOk at h ⊢
  split at h
  · trivial
  · obtain ⟨h1, h2, r, h3⟩ := h
    obtain ⟨k1, k2⟩ := h1.ext (fun h => h2 (hX _ h)) he
    exact ⟨k1, h2, r, k2.trans h3⟩
structure Rel [Inhabited GlobS] (G : Org) (st : St) (β : Beta) (a : Act) (w : World) : Prop where
  srel : SRel G.w0 G.F0 st.s β w
  ext : Ext G.n G.w0 G.X G.s G.β G.w st.s β w
  bs : G.n ≤ st.base.n
  nxb : G.n ≤ st.s.nx
  tm : ∀ t, RV w (Fr G.w0 G.F0 st.s β) β (st.tm t) (a.tmps.getD t undef)
  size : a.tmps.size = G.N
  df : DfOk G st.s β w a.defers
  hs : G.hr st.s β w st.base.c
  rd : RdOk G st.s β w
theorem Rel.ev [Inhabited GlobS] {G : Org} {st : St} {β : Beta} {a : Act} {w : World} (h : Rel G st β a w) : ∀ x, RV w (Fr G.w0 G.F0 st.s β) β (ev st.tm x) (a.eval x) := fun x => by
  cases x with
  | tmp t => exact h.tm t
  | const v =>
    simp only [Dl.ev]
    split
    · rename_i hv; exact .data (.v _ hv)
    · exact .dead _
  | global g => exact .data (.v _ rfl)
  | func f => exact .clo (.func f) [] [] [] [] rfl rfl (fun i d x h => by simp at h) (fun i d x h => by simp at h)
theorem Rel.step [Inhabited GlobS] {G : Org} {st : St} {β β' : Beta} {a : Act} {w w' : World} {s' : Sto} (h : Rel G st β a w) (h1 : SRel G.w0 G.F0 s' β' w')
    (h2 : Ext st.s.nx G.w0 nX st.s β w s' β' w') (h3 : st.s.nx ≤ s'.nx) (dst : Option Tmp) (hd : (dst.all fun t => decide (t < G.N)) = true) (d : DV) (v : Value) (hv : RV w' (Fr G.w0 G.F0 s' β') β' d v) :
    Rel G ((st.setS s').put dst d) β' (a.put dst v) w' := by
  have key : ∀ t, RV w' (Fr G.w0 G.F0 s' β') β' (st.tm t) (a.tmps.getD t undef) := fun t => RV.ext h.srel (Nat.le_refl _) h2 (h.tm t)
  cases dst with
  | none => exact ⟨h1, h.ext.trans (h2.mono h.nxb).toX, h.bs, Nat.le_trans h.nxb h3, key, h.size, h.df.ext (fun _ h => h.elim) h2, G.hrx _ _ _ _ _ _ _ h.hs h2.keep, h.rd.ext (fun _ h => h.elim) h2⟩
  | some t0 =>
    refine ⟨h1, h.ext.trans (h2.mono h.nxb).toX, h.bs, Nat.le_trans h.nxb h3, fun t => ?_, by simpa [Act.put, St.put] using h.size, h.df.ext (fun _ h => h.elim) h2, G.hrx _ _ _ _ _ _ _ h.hs h2.keep, h.rd.ext (fun _ h => h.elim) h2⟩
    have hlt : t0 < a.tmps.size := by rw [h.size]; simpa using hd
    by_cases e : t = t0
    · subst e
      simp only [St.put, upd_same, Act.put]
      rw [Array.getD_eq_getD_getElem?, Array.getElem?_setIfInBounds_self_of_lt hlt]
      exact hv
    · simp only [St.put, upd_ne _ _ _ e, Act.put]
      rw [Array.getD_eq_getD_getElem?, Array.getElem?_setIfInBounds_ne (fun h => e h.symm), ← Array.getD_eq_getD_getElem?]
      exact key t
theorem Rel.put [Inhabited GlobS] {G : Org} {st : St} {β : Beta} {a : Act} {w : World} (h : Rel G st β a w) (dst : Option Tmp) (hd : (dst.all fun t => decide (t < G.N)) = true) (d : DV) (v : Value)
    (hv : RV w (Fr G.w0 G.F0 st.s β) β d v) : Rel G (st.put dst d) β (a.put dst v) w :=
  h.step h.srel .refl (Nat.le_refl _) dst hd d v hv
theorem Rel.below [Inhabited GlobS] {G : Org} {st : St} {β : Beta} {a : Act} {w w' : World} (h : Rel G st β a w) (hb : BelowD w.heap.size w w') : Rel G st β a w' := by
  obtain ⟨h1, h2⟩ := h.srel.below' hb
  exact ⟨h1, h.ext.trans (h2 _).toX, h.bs, h.nxb, fun t => RV.ext h.srel (Nat.le_refl _) (h2 _) (h.tm t), h.size, h.df.ext (fun _ h => h.elim) (h2 0), G.hrx _ _ _ _ _ _ _ h.hs (h2 0).keep, h.rd.ext (fun _ h => h.elim) (h2 0)⟩
def DFun [Inhabited GlobS] (P : Program) (f : FuncId) (args : List DV) (Q : DV → Sto → Prop) : Prop :=
  ∀ (w : World) (F : Nat → Prop) (vals : List Value), Gok w → (∀ b, w.heap.size ≤ b → F b) → Pw w F (fun _ => none) args vals →
    Calls P f vals.toArray w fun e w' => ∃ v r s' β', e = .returned v ∧ Q r s' ∧ SRel w F s' β' w' ∧ RV w' (Fr w F s' β') β' r v
def DPure [Inhabited GlobS] (P : Program) (f : FuncId) (args : List DV) (r : DV) : Prop := DFun P f args fun r' _ => r' = r
def SCall [Inhabited GlobS] (P : Program) (f : FuncId) (args : List DV) (s : Sto) (K : DV → Sto → Prop) : Prop :=
  ∀ (w0 : World) (F0 : Nat → Prop) (β : Beta) (w : World) (vals : List Value), SRel w0 F0 s β w → Pw w (Fr w0 F0 s β) β args vals →
    Calls P f vals.toArray w fun e w' => ∃ v r s' β', e = .returned v ∧ K r s' ∧ SRel w0 F0 s' β' w' ∧ Ext s.nx w0 nX s β w s' β' w' ∧ s.nx ≤ s'.nx ∧ RV w' (Fr w0 F0 s' β') β' r v
def scal : DV → Bool
  | .v x => x.oneCell'
  | .tup ds => ds.all fun | .v x => x.oneCell' | _ => false
  | _ => false
def svalOf : DV → Value
  | .v x => x
  | .tup ds => .tuple (ds.map fun | .v x => x | _ => undef).toArray
  | _ => undef
theorem rv_scal {w : World} {F : Nat → Prop} {β : Beta} {d : DV} {x : Value} (h : RV w F β d x) (hd : scal d = true) : x = svalOf d := by
  unfold scal at hd
  split at hd
  · rw [rv_v h]; rfl
  · rename_i ds
    obtain ⟨xs, rfl, hl, hp⟩ := rv_tup h
    simp only [svalOf]
    congr 2
    apply List.ext_getElem? 
    intro i
    rw [List.getElem?_map]
    cases hi : ds[i]? with
    | none =>
      have : ds.length ≤ i := by simpa using hi
      simp; omega
    | some d =>
      have hlt : i < xs.length := by rw [← hl]; exact (List.getElem?_eq_some_iff.1 hi).1
      have hm := List.all_eq_true.1 hd d (List.mem_of_getElem? hi)
      have := hp i d _ hi (List.getElem?_eq_getElem hlt)
      split at hm
      · rw [List.getElem?_eq_getElem hlt, rv_v this]; rfl
      · cases hm
  · cases hd
theorem rd_scal {w w' : World} {F F' : Nat → Prop} {β β' : Beta} {d : DV} {x : Value} (h : RV w F β d x) (hd : scal d = true) : RV w' F' β' d x := by
  unfold scal at hd
  split at hd
  · cases h with
    | data h => cases h with | v _ h => exact .data (.v _ h)
  · rename_i ds
    obtain ⟨xs, rfl, hl, hp⟩ := rv_tup h
    refine .tup _ _ hl (fun i d x h1 h2 => ?_)
    have hm := List.all_eq_true.1 hd d (List.mem_of_getElem? h1)
    have := hp i d x h1 h2
    split at hm
    · cases this with
      | data h => cases h with | v _ h => exact .data (.v _ h)
    · cases hm
  · cases hd
theorem rv_svalOf {w : World} {F : Nat → Prop} {β : Beta} {d : DV} (hd : scal d = true) : RV w F β d (svalOf d) := by
  unfold scal at hd
  split at hd
  · exact .data (.v _ hd)
  · rename_i ds
    refine .tup _ _ (by simp) (fun i d x h1 h2 => ?_)
    have hm := List.all_eq_true.1 hd d (List.mem_of_getElem? h1)
    rw [List.getElem?_map, h1] at h2
    split at hm
    · simp at h2; subst h2; exact .data (.v _ hm)
    · cases hm
  · cases hd
def chunks (sz len : Nat) (cells : List DV) : List (List DV) := (List.range len).map fun i => (cells.drop (i * sz)).take sz
def isData1 : DV → Bool
  | .v _ | .lst .. => true
  | _ => false
def lend1 (s : Sto) : DV → Option DV
  | .v x => some (.v x)
  | .lst sz es => some (.lst sz es)
  | .lref sz es i off => some (.lref sz es i off)
  | .arr id len => match s.ob id with
    | some o => if len * o.sz ≤ o.cells.length ∧ o.cells.all isData1 = true ∧ 0 < o.sz then some (.lst o.sz (chunks o.sz len o.cells)) else none
    | none => none
  | .clo fn [] [] => some (.clo fn [] [])
  | .dead => some .dead
  | _ => none
def lend (s : Sto) : DV → Option DV
  | .agg cs => (cs.mapM (lend1 s)).map .agg
  | d => lend1 s d
def PSem [Inhabited GlobS] (P : Program) (f : FuncId) (args : List DV) (s : Sto) (r : DV) : Prop :=
  ∀ (w0 : World) (F0 : Nat → Prop) (β : Beta) (w : World) (vals : List Value), SRel w0 F0 s β w → Pw w (Fr w0 F0 s β) β args vals →
    Calls P f vals.toArray w fun e w' => e = .returned (svalOf r) ∧ BelowD w.heap.size w w'
def PCall [Inhabited GlobS] (P : Program) (f : FuncId) (args : List DV) (s : Sto) (g : Bool) (K : DV → Prop) : Prop :=
  ∃ r, (g = true → scal r = true ∧ PSem P f args s r) ∧ K r
def GCall [Inhabited GlobS] (P : Program) (f : FuncId) (args : List DV) (s : Sto) (g : Bool) (Kd : DV → Prop) (Kt : DV → Sto → Prop) (Kf : Prop) : Prop :=
  (∃ r, (g = true → SCall P f args s fun r' s' => r' = r ∧ s' = s) ∧ Kd r) ∨ ((g = true → SCall P f args s Kt) ∧ (g = false → Kf))
theorem rd_all {w : World} {F : Nat → Prop} {d : DV} {x : Value} (h : RD w F d x) : RD w (fun _ => True) d x := h.mono fun _ _ _ => ⟨trivial, rfl⟩
theorem mapM_get {α β : Type} (f : α → Option β) : ∀ (l : List α) (r : List β), l.mapM f = some r → l.length = r.length ∧ ∀ (i : Nat) x y, l[i]? = some x → r[i]? = some y → f x = some y := fun l => by
  induction l with
  | nil => intro r h; simp at h; subst h; simp
  | cons a l ih =>
    intro r h
    simp only [List.mapM_cons, Option.bind_eq_bind, Option.bind_eq_some_iff, Option.pure_def, Option.some.injEq] at h
    obtain ⟨b, hb, bs, hbs, rfl⟩ := h
    obtain ⟨i1, i2⟩ := ih bs hbs
    refine ⟨by simp [i1], fun i x y h1 h2 => ?_⟩
    cases i with
    | zero => simp at h1 h2; subst h1 h2; exact hb
    | succ i => exact i2 i x y (by simpa using h1) (by simpa using h2)
theorem lend1_sound [Inhabited GlobS] {w0 w : World} {F0 : Nat → Prop} {s : Sto} {β : Beta} (hs : SRel w0 F0 s β w) {d d' : DV} {x : Value} (h : lend1 s d = some d') (hx : RV w (Fr w0 F0 s β) β d x) :
    RV w (fun _ => True) (fun _ => none) d' x := by
  unfold lend1 at h
  split at h
  · cases h
    cases hx with
    | data h => exact .data (rd_all h)
  · cases h
    cases hx with
    | data h => exact .data (rd_all h)
  · cases h
    obtain ⟨b, o, cap, hrd, hi, rfl⟩ := rv_lref hx
    exact .lref _ _ _ _ b o cap (rd_all hrd) hi
  · rename_i id len
    split at h
    · rename_i o hob
      split at h
      · rename_i hc
        obtain ⟨hle, hall, hpos⟩ := hc
        cases h
        have hcl : (chunks o.sz len o.cells).length = len := by simp [chunks]
        have hget : ∀ (i : Nat) cs, (chunks o.sz len o.cells)[i]? = some cs → i < len ∧ cs = (o.cells.drop (i * o.sz)).take o.sz := fun i cs h => by
          have hi : i < len := by have := (List.getElem?_eq_some_iff.1 h).1; rw [hcl] at this; exact this
          simp [chunks, hi] at h
          exact ⟨hi, h.symm⟩
        have hfit : ∀ i, i < len → i * o.sz + o.sz ≤ o.cells.length := fun i hi => by
          have : (i + 1) * o.sz ≤ len * o.sz := Nat.mul_le_mul_right _ hi
          rw [Nat.succ_mul] at this
          omega
        rcases rv_arr hx with ⟨b, c, hb, hlc, rfl⟩ | ⟨hb, rfl, rfl⟩
        · rcases hs.obs id o hob with g | ⟨b', c', cur, g1, g2, g3, g4, g5, g6, g7⟩
          · rw [g.1] at hb; cases hb
          rw [g1] at hb
          simp only [Option.some.injEq, Prod.mk.injEq] at hb
          obtain ⟨rfl, rfl⟩ := hb
          have key : RD w (fun _ => True) (.lst o.sz (chunks o.sz len o.cells)) (.slice (some ⟨b', 0, none⟩) (chunks o.sz len o.cells).length c') := by
            refine .lst _ _ _ b' 0 c' (fun i j => (cur[i * o.sz + j]?).getD undef) (fun _ => rfl) (fun h => by cases h) (by rw [hcl]; exact hlc) g5 (fun i cs hi => ?_) (fun i cs j d hi hj => ?_) (fun i cs j d hi hj => ?_)
            · obtain ⟨h1, rfl⟩ := hget i cs hi
              have := hfit i h1
              simp; omega
            all_goals
              obtain ⟨h1, rfl⟩ := hget i cs hi
              rw [List.getElem?_take] at hj
              split at hj
              case isFalse => cases hj
              rw [List.getElem?_drop] at hj
              obtain ⟨y, hy, hr⟩ := g7 _ _ hj
            · refine ⟨?_, trivial⟩
              have h0 : 0 < o.cells.length := by have := (List.getElem?_eq_some_iff.1 hj).1; omega
              obtain ⟨y0, hy0, hr0⟩ := g7 0 _ (List.getElem?_eq_getElem h0)
              have hd := List.all_eq_true.1 hall _ (List.getElem_mem h0)
              have h1 : y0.oneCell' = true := by
                generalize o.cells[0] = d0 at hr0 hd
                cases hr0 with
                | data h => exact h.one
                | _ => cases hd
              rw [blk_one hy0 h1] at g3
              simp [World.cell?, g3, hy]
            · have hd := List.all_eq_true.1 hall d (List.mem_of_getElem? hj)
              rw [hy]
              simp only [Option.getD_some]
              cases hr with
              | data h => exact rd_all h
              | _ => cases hd
          rw [hcl] at key
          exact .data key
        · have key : RD w (fun _ => True) (.lst o.sz (chunks o.sz 0 o.cells)) (.slice none (chunks o.sz 0 o.cells).length 0) :=
            .lst _ _ none 0 0 0 (fun _ _ => undef) (fun h => by simp [chunks] at h) (fun _ => rfl) (by simp [chunks]) (by simp [maxLen]) (fun i cs h => by simp [chunks] at h) (fun i cs j d h => by simp [chunks] at h) (fun i cs j d h => by simp [chunks] at h)
          exact .data key
      · cases h
    · cases h
  · cases h
    obtain ⟨xs, ys, rfl, hl, hl', _⟩ := rv_clo hx
    have h1 : xs = [] := List.length_eq_zero_iff.1 hl.symm
    have h2 : ys = [] := List.length_eq_zero_iff.1 hl'.symm
    subst h1 h2
    exact .clo _ [] [] [] [] rfl rfl (fun i d x h => by simp at h) (fun i d x h => by simp at h)
  · cases h; exact .dead _
  · cases h
theorem lend_sound [Inhabited GlobS] {w0 w : World} {F0 : Nat → Prop} {s : Sto} {β : Beta} (hs : SRel w0 F0 s β w) {d d' : DV} {x : Value} (h : lend s d = some d') (hx : RV w (Fr w0 F0 s β) β d x) :
    RV w (fun _ => True) (fun _ => none) d' x := by
  unfold lend at h
  split at h
  · rename_i cs
    obtain ⟨cs', h1, rfl⟩ := Option.map_eq_some_iff.1 h
    obtain ⟨hl, hm⟩ := mapM_get _ _ _ h1
    obtain ⟨xs, rfl, hl2, hp⟩ := rv_agg hx
    refine .agg _ _ (by omega) (fun i d x k1 k2 => ?_)
    have hi : i < cs.length := by rw [hl]; exact (List.getElem?_eq_some_iff.1 k1).1
    exact lend1_sound hs (hm i _ _ (List.getElem?_eq_getElem hi) k1) (hp i _ _ (List.getElem?_eq_getElem hi) k2)
  · exact lend1_sound hs h hx
theorem lends_sound [Inhabited GlobS] {w0 w : World} {F0 : Nat → Prop} {s : Sto} {β : Beta} (hs : SRel w0 F0 s β w) {args args' : List DV} {vals : List Value} (h : args.mapM (lend s) = some args') (hx : Pw w (Fr w0 F0 s β) β args vals) :
    Pw w (fun _ => True) (fun _ => none) args' vals := by
  obtain ⟨hl, hm⟩ := mapM_get _ _ _ h
  refine ⟨by rw [← hl]; exact hx.1, fun i d x k1 k2 => ?_⟩
  have hi : i < args.length := by rw [hl]; exact (List.getElem?_eq_some_iff.1 k1).1
  exact lend_sound hs (hm i _ _ (List.getElem?_eq_getElem hi) k1) (hx.2 i _ _ (List.getElem?_eq_getElem hi) k2)
theorem pcall_sound [Inhabited GlobS] {P : Program} {f : FuncId} {args : List DV} {s : Sto} {r : DV} (hr : scal r = true) {args' : List DV} (hl : args.mapM (lend s) = some args') (h : DPure P f args' r)
    {w0 w : World} {F0 : Nat → Prop} {β : Beta} {vals : List Value} (hs : SRel w0 F0 s β w) (hx : Pw w (Fr w0 F0 s β) β args vals) :
    Calls P f vals.toArray w fun e w' => e = .returned (svalOf r) ∧ BelowD w.heap.size w w' :=
  (h w (fun _ => True) vals hs.gok (fun _ _ => trivial) (lends_sound hs hl hx)).mono fun e w' ⟨v, r', s', β', he, hq, hs', hv⟩ => by
    subst hq
    exact ⟨by rw [he, rv_scal hv hr], hs'.below⟩
theorem SCall.scal [Inhabited GlobS] {P : Program} {f : FuncId} {args args' : List DV} {s : Sto} {K : DV → Sto → Prop} {r : DV} (h : DPure P f args' r) (hl : args.mapM (lend s) = some args') (hr : scal r = true) (hK : K r s) : SCall P f args s K :=
  fun w0 F0 β w vals hs hx => (h w (fun _ => True) vals hs.gok (fun _ _ => trivial) (lends_sound hs hl hx)).mono fun e w' ⟨v, r', s', β', he, hq, hs', hv⟩ => by
    subst hq
    obtain ⟨k1, k2⟩ := hs.below' hs'.below
    exact ⟨v, r', s, β, he, hK, k1, k2 _, Nat.le_refl _, rd_scal hv hr⟩
end Go.Dl
namespace Go.Dl
open Go Go.RowKit
def dyield (d : DV) (want : Bool) (K : Bool → Prop) : Prop :=
  match d with
  | .v (.bool b) => K (b == want)
  | .when t (.v (.bool b)) => K (t && (b == want))
  | _ => False
def dgd (ops : Array Oper) (o : Oper) (tm : Nat → DV) (K : Bool → Prop) : Prop :=
  match o.guard with
  | none => K true
  | some (j, want) => match (ops[j]?).bind (·.dst) with
    | some t => dyield (tm t) want K
    | none => False
def gwhen (g : Bool) (d : DV) : DV := match d with | .when t d' => .when (g && t) d' | d => .when g d
def gw (o : Oper) (g : Bool) (d : DV) : DV := match o.guard with | none => d | some _ => gwhen g d
def entersB (P : Program) (f : FuncId) : Bool :=
  match P.funcs[f]? with
  | some fn => fn.name != "runtime.NumGoroutine" && fn.body.isSome
  | none => false
noncomputable def evgs (g : Bool) (ds : List DV) : (List DV → Prop) → Prop :=
  List.rec (motive := fun _ => (List DV → Prop) → Prop) (fun K => K []) (fun d _ next K => evg g d fun d' => next fun ds' => K (d' :: ds')) ds
noncomputable def deff [Inhabited GlobS] (P : Program) (quiet : Bool) (o : Oper) (g : Bool) (st : St) (K : St → Prop) : Prop :=
  quiet = false ∧ (g = true → de P st.s (ev st.tm) o.op fun d s' => K ((st.setS s').put o.dst d)) ∧ (g = false → K (st.put o.dst .dead))
def YT : Type := Nat → List DV → List DExit → Sto → (Bool → List DExit → Sto → Prop) → Prop
def noY : YT := fun _ _ _ _ _ => False
def YOk [Inhabited GlobS] (P : Program) (G : Org) (Y : YT) : Prop :=
  ∀ (l : Nat) (ds : List DV) (c : List DExit) (s : Sto) (K : Bool → List DExit → Sto → Prop), Y l ds c s K → ∀ (β : Beta) (w : World) (vals : List Value), SRel G.w0 G.F0 s β w → Ext G.n G.w0 G.X G.s G.β G.w s β w → G.n ≤ s.nx → G.hr s β w c →
    Pw w (Fr G.w0 G.F0 s β) β ds vals → ∃ r : Loop, w.heap[l]? = some (.loop r) ∧ vals.length = r.params.size ∧
      RoundIn (Wd G.rd) 0 P l r.fn ((r.params.zip vals.toArray).foldl (fun tmps (t, a) => tmps.setIfInBounds t a) r.tmps) r.assign r.body w fun e w' =>
        ∃ b c' s' β', e = .returned (.bool b) ∧ K b c' s' ∧ SRel G.w0 G.F0 s' β' w' ∧ Ext s.nx G.w0 G.X s β w s' β' w' ∧ s.nx ≤ s'.nx ∧ G.hr s' β' w' c'
theorem noY_ok [Inhabited GlobS] {P : Program} {G : Org} : YOk P G noY := fun _ _ _ _ _ h => h.elim
noncomputable def dstep [Inhabited GlobS] (P : Program) (Y : YT) (ops : Array Oper) (quiet : Bool) (o : Oper) (st : St) (K : St → Prop) : Prop :=
  dgd ops o st.tm fun g => (match o.op with
    | .alloc _ | .box .. | .buildSlice .. | .makeSlice .. | .store .. | .makeMap .. | .mapUpdate .. => deff P quiet o g st K
    | .call c => (match c.callee with
      | .value f => evg g (ev st.tm f) fun df => (match df with
        | .clo (.func fid) first cap => (g = true → entersB P fid = true) ∧ evgs g (c.args.toList.map (ev st.tm)) fun das => (match quiet, o.guard with
          | false, none => SCall P fid (first ++ das ++ cap) st.s fun r s' => K ((st.setS s').put o.dst r)
          | false, some _ => GCall P fid (first ++ das ++ cap) st.s g (fun r => K (st.put o.dst (gw o g r))) (fun r s' => K ((st.setS s').put o.dst r)) (K (st.put o.dst .dead))
          | true, _ => PCall P fid (first ++ das ++ cap) st.s g fun r => K (st.put o.dst (gw o g r)))
        | .clo (.yield l) [] [] => quiet = false ∧ evgs g (c.args.toList.map (ev st.tm)) fun das =>
          (g = true → Y l das st.base.c st.s fun b c' s' => K ((St.mk ⟨st.base.n, c'⟩ st.tm s').put o.dst (.v (.bool b)))) ∧ (g = false → K (st.put o.dst .dead))
        | _ => False)
      | .builtin .append | .builtin .clear | .builtin .copy | .builtin .delete => deff P quiet o g st K
      | _ => dq P st.s (ev st.tm) g o.op fun d => K (st.put o.dst (gw o g d)))
    | op => dq P st.s (ev st.tm) g op fun d => K (st.put o.dst (gw o g d)))
noncomputable def dops [Inhabited GlobS] (P : Program) (Y : YT) (ops : Array Oper) (quiet : Bool) (l : List Oper) : St → (St → Prop) → Prop :=
  List.rec (motive := fun _ => St → (St → Prop) → Prop) (fun st K => K st) (fun o _ next st K => dstep P Y ops quiet o st fun st' => next st' K) l
theorem SRel.obsF [Inhabited GlobS] {w0 : World} {F0 : Nat → Prop} {s : Sto} {β : Beta} {w : World} (h : SRel w0 F0 s β w) : ObsF w0 (Fr w0 F0 s β) s β w := h.obs
theorem dyield_sound (d : DV) {want : Bool} {K : Bool → Prop} (h : dyield d want K) : ∃ g, K g ∧ ∀ w F β x, RV w F β d x → ((match some x with | some (Value.bool b) => some b | _ => none) == some want) = g := by
  unfold dyield at h
  split at h
  · rename_i b
    exact ⟨b == want, h, fun w F β x hx => by rw [rv_v hx]; rfl⟩
  · rename_i t b
    refine ⟨t && (b == want), h, fun w F β x hx => ?_⟩
    cases hx with
    | data h => cases h
    | whn _ _ _ h1 h2 =>
      cases t with
      | true => rw [rv_v (h1 rfl)]; rfl
      | false => rw [h2 rfl]; rfl
  · exact h.elim
theorem rv_gwhen {w : World} {F : Nat → Prop} {β : Beta} {g : Bool} {d : DV} {x : Value} (h1 : g = true → RV w F β d x) (h2 : g = false → x = undef) : RV w F β (gwhen g d) x := by
  unfold gwhen
  split
  · rename_i t d'
    refine .whn _ _ _ (fun e => ?_) (fun e => ?_)
    · simp only [Bool.and_eq_true] at e
      have := h1 e.1
      cases this with
      | data h => cases h
      | whn _ _ _ k1 k2 => exact k1 e.2
    · cases g with
      | false => exact h2 rfl
      | true =>
        have := h1 rfl
        cases this with
        | data h => cases h
        | whn _ _ _ k1 k2 => exact k2 (by simpa using e)
  · exact .whn _ _ _ h1 h2
theorem dgd_sound {ops : Array Oper} {o : Oper} {tm : Nat → DV} {K : Bool → Prop} (h : dgd ops o tm K) :
    ∃ g, K g ∧ (o.guard = none → g = true) ∧ ∀ w F β (a : Act), (∀ t, RV w F β (tm t) (a.tmps.getD t undef)) → Region.wanted o (yielded ops a.tmps) = g := by
  unfold dgd at h
  split at h
  · rename_i hg
    exact ⟨true, h, fun _ => rfl, fun w F β a _ => by simp [Region.wanted, hg]⟩
  · rename_i j want hg
    split at h
    · rename_i t ht
      obtain ⟨g, h1, h2⟩ := dyield_sound _ h
      refine ⟨g, h1, fun e => (by rw [hg] at e; cases e), fun w F β a hr => ?_⟩
      have := h2 w F β _ (hr t)
      simp only [Region.wanted, hg, yielded, ht, Option.bind_some]
      rw [← this]
      by_cases hlt : t < a.tmps.size
      · simp only [Array.getElem?_eq_getElem hlt, Array.getD_eq_getD_getElem?, Option.getD_some]
        generalize a.tmps[t] = x
        cases x <;> rfl
      · simp only [Array.getElem?_eq_none (Nat.le_of_not_lt hlt), Array.getD_eq_getD_getElem?, Option.getD_none]
        rfl
    · exact h.elim
theorem evgs_sound {g : Bool} : (ds : List DV) → {K : List DV → Prop} → evgs g ds K → ∃ ds', K ds' ∧ (g = true → ∀ w F β xs, Pw w F β ds xs → Pw w F β ds' xs)
  | [], K, h => ⟨[], h, fun _ _ _ _ _ h => h⟩
  | d :: ds, K, h => by
    obtain ⟨d', h1, h2⟩ := evg_sound _ h
    obtain ⟨ds', h3, h4⟩ := evgs_sound ds h1
    refine ⟨_, h3, fun hg w F β xs hx => ?_⟩
    cases xs with
    | nil => have := hx.1; simp at this
    | cons x xs =>
      obtain ⟨k1, k2⟩ := hx.tail
      exact (h4 hg _ _ _ _ k2).cons (h2 hg _ _ _ _ k1)
theorem run_callFunc {P : Program} {f : FuncId} (h : entersB P f = true) (args : Array Value) (w : World) : (callFunc f args).run P w = .ok (.enter f args) w := by
  unfold entersB at h
  split at h
  · rename_i fn hf
    simp only [Bool.and_eq_true, bne_iff_ne, ne_eq, Option.isSome_iff_exists] at h
    obtain ⟨h1, c, h2⟩ := h
    simp [callFunc, hf, h1, h2]
  · cases h
theorem run_call {P : Program} {f : FuncId} (h : entersB P f = true) {a : Act} {o : Oper} {c : Call} {x : Operand} (ho : o.op = .call c) (hc : c.callee = .value x) {xs ys : List Value} (hx : a.eval x = .func (.func f) xs.toArray ys.toArray) (w : World) :
    (execOp a.eval o).run P w = .ok (.enter f (xs ++ c.args.toList.map a.eval ++ ys).toArray) w := by
  have e : c.args.map a.eval = (c.args.toList.map a.eval).toArray := by rw [← Array.toList_map, Array.toArray_toList]
  simp only [execOp, ho, resolve, hc, hx, Deferred.ofValue, invoke, Sem.run_bind, Sem.run_pure, Result.andThen_ok, e, List.append_toArray, run_callFunc h]
theorem pw_append {w : World} {F : Nat → Prop} {β : Beta} {ds es : List DV} {xs ys : List Value} (h : Pw w F β ds xs) (k : Pw w F β es ys) : Pw w F β (ds ++ es) (xs ++ ys) := by
  refine ⟨by simp [h.1, k.1], fun i d y h1 h2 => ?_⟩
  rw [List.getElem?_append] at h1 h2
  rw [h.1] at h1
  split at h1
  · rename_i hi; rw [if_pos hi] at h2; exact h.2 i d y h1 h2
  · rename_i hi; rw [if_neg hi] at h2; exact k.2 _ d y h1 h2
theorem pw_ev {w : World} {F : Nat → Prop} {β : Beta} {tm : Nat → DV} {ev' : Operand → Value} (h : ∀ x, RV w F β (ev tm x) (ev' x)) (xs : List Operand) : Pw w F β (xs.map (ev tm)) (xs.map ev') :=
  ⟨by simp, rv_map (ρ := ev tm) xs ev' h⟩
theorem run_yieldCall {P : Program} {a : Act} {o : Oper} {c : Call} {x : Operand} {l : Nat} (ho : o.op = .call c) (hc : c.callee = .value x) (hx : a.eval x = .func (.yield l) ([] : List Value).toArray ([] : List Value).toArray) {w : World} {r : Loop} (hl : w.heap[l]? = some (.loop r))
    (hs : (c.args.toList.map a.eval).length = r.params.size) :
    (execOp a.eval o).run P w = .ok (.round l r.fn ((r.params.zip (c.args.toList.map a.eval).toArray).foldl (fun tmps (t, a) => tmps.setIfInBounds t a) r.tmps) r.assign r.body) w := by
  have e : c.args.map a.eval = (c.args.toList.map a.eval).toArray := by rw [← Array.toList_map, Array.toArray_toList]
  have hy := run_yield (P := P) (args := (c.args.toList.map a.eval).toArray) hl (by simpa using hs)
  simp only [execOp, ho, resolve, hc, hx, Deferred.ofValue, invoke, Sem.run_bind, Sem.run_pure, Result.andThen_ok, e, List.append_toArray, List.nil_append]
  exact hy
theorem Rel.moved [Inhabited GlobS] {G : Org} {st : St} {β β' : Beta} {a : Act} {w w' : World} {s' : Sto} {c' : List DExit} (h : Rel G st β a w) (h1 : SRel G.w0 G.F0 s' β' w')
    (h2 : Ext st.s.nx G.w0 G.X st.s β w s' β' w') (h3 : st.s.nx ≤ s'.nx) (h4 : G.hr s' β' w' c') : Rel G ⟨⟨st.base.n, c'⟩, st.tm, s'⟩ β' a w' :=
  ⟨h1, h.ext.trans (h2.mono h.nxb), h.bs, Nat.le_trans h.nxb h3, fun t => RV.extX h.srel G.hX (Nat.le_refl _) h2 (h.tm t), h.size, h.df.ext (fun _ h => h) h2, h4, h.rd.ext (fun _ h => h) h2⟩
theorem Rel.yielded [Inhabited GlobS] {G : Org} {st : St} {β β' : Beta} {a : Act} {w w' : World} {s' : Sto} {c' : List DExit} (h : Rel G st β a w) (h1 : SRel G.w0 G.F0 s' β' w')
    (h2 : Ext st.s.nx G.w0 G.X st.s β w s' β' w') (h3 : st.s.nx ≤ s'.nx) (h4 : G.hr s' β' w' c') (dst : Option Tmp) (hd : (dst.all fun t => decide (t < G.N)) = true) (b : Bool) :
    Rel G ((St.mk ⟨st.base.n, c'⟩ st.tm s').put dst (.v (.bool b))) β' (a.put dst (.bool b)) w' :=
  (h.moved h1 h2 h3 h4).put dst hd _ _ (.data (.v _ rfl))
theorem dstep_sound [Inhabited GlobS] {P : Program} {Y : YT} {ops : Array Oper} {o : Oper} {st : St} {K : St → Prop} {G : Org} (hY : YOk P G Y) (hnd : noDefer o = true) (hd : (o.dst.all fun t => decide (t < G.N)) = true) (h : dstep P Y ops false o st K) {β : Beta} {a : Act} {w : World} (hr : Rel G st β a w)
    {next : Act → World → Prop} {Q : Exit → Act → World → Prop} (hn : ∀ st' β' a' w', K st' → Rel G st' β' a' w' → next a' w') :
    if Region.wanted o (yielded ops a.tmps) then o.wpIn (Wd G.rd) 0 P a w next Q else next (a.put o.dst undef) w := by
  obtain ⟨g, h, hg0, hg⟩ := dgd_sound h
  have hg := hg _ _ _ a hr.tm
  rw [hg]
  -- an operation that only reads
  have quiet : (∃ d, K (st.put o.dst (gw o g d)) ∧ (g = true → QSem P st.s o.op (ev st.tm) d)) → if g = true then o.wpIn (Wd G.rd) 0 P a w next Q else next (a.put o.dst undef) w := fun ⟨d, hK, hq⟩ => by
    cases g with
    | true =>
      rw [if_pos rfl]
      obtain ⟨v, hv, hrun⟩ := hq rfl _ _ _ _ _ hr.srel.obsF hr.ev
      refine opIn_value hnd (hrun o w rfl (fun _ _ _ => rfl)) ?_
      refine hn _ _ _ _ hK (hr.put _ hd _ _ ?_)
      unfold gw
      split
      · exact hv
      · exact rv_gwhen (fun _ => hv) (fun e => by cases e)
    | false =>
      rw [if_neg (by simp)]
      refine hn _ _ _ _ hK (hr.put _ hd _ _ ?_)
      unfold gw
      split
      · rename_i e; exact absurd (hg0 e) (by simp)
      · exact rv_gwhen (fun e => by cases e) (fun _ => rfl)
  have eff : deff P false o g st K → if g = true then o.wpIn (Wd G.rd) 0 P a w next Q else next (a.put o.dst undef) w := fun ⟨_, h1, h2⟩ => by
    cases g with
    | true =>
      rw [if_pos rfl]
      obtain ⟨nx, v, w', d, s', β', hnx, hrun, hK, k1, k2, k3, k4, _, _⟩ := de_sound _ (h1 rfl) _ _ _ _ _ hr.srel hr.ev
      have := hn _ _ _ _ hK (hr.step k1 k2 k3 _ hd _ _ k4)
      rcases hnx with rfl | ⟨rfl, rfl⟩
      · exact opIn_value hnd (hrun o rfl) this
      · exact opIn_skip hnd (hrun o rfl) this
    | false =>
      rw [if_neg (by simp)]
      exact hn _ _ _ _ (h2 rfl) (hr.put _ hd _ _ (.dead _))
  split at h
  · exact eff h
  · exact eff h
  · exact eff h
  · exact eff h
  · exact eff h
  · exact eff h
  · exact eff h
  · rename_i c hop
    split at h
    · rename_i x hcal
      obtain ⟨df, h, hdf⟩ := evg_sound _ h
      split at h
      · rename_i fid first cap
        obtain ⟨hent, h⟩ := h
        obtain ⟨das, hcall, hdas⟩ := evgs_sound _ h
        cases hgd : o.guard with
        | none =>
          simp only [hgd] at hcall
          have hgt := hg0 hgd
          subst hgt
          rw [if_pos rfl]
          obtain ⟨xs, ys, he, hl1, hl2, hp1, hp2⟩ := rv_clo (hdf rfl _ _ _ _ (hr.ev x))
          have hargs := hdas rfl _ _ _ _ (pw_ev hr.ev c.args.toList)
          have hpw : Pw w (Fr G.w0 G.F0 st.s β) β (first ++ das ++ cap) (xs ++ c.args.toList.map a.eval ++ ys) := pw_append (pw_append ⟨hl1, hp1⟩ hargs) ⟨hl2, hp2⟩
          refine opIn_enter hnd (run_call (hent rfl) hop hcal he w) ((hcall _ _ _ _ _ hr.srel hpw).mono fun e w' ⟨v, r, s', β', he', hK, k1, k2, k3, k4⟩ => ⟨v, he', ?_⟩)
          exact hn _ _ _ _ hK (hr.step k1 k2 k3 _ hd _ _ k4)
        | some p =>
          simp only [hgd] at hcall
          cases g with
          | true =>
            rw [if_pos rfl]
            obtain ⟨xs, ys, he, hl1, hl2, hp1, hp2⟩ := rv_clo (hdf rfl _ _ _ _ (hr.ev x))
            have hargs := hdas rfl _ _ _ _ (pw_ev hr.ev c.args.toList)
            have hpw : Pw w (Fr G.w0 G.F0 st.s β) β (first ++ das ++ cap) (xs ++ c.args.toList.map a.eval ++ ys) := pw_append (pw_append ⟨hl1, hp1⟩ hargs) ⟨hl2, hp2⟩
            rcases hcall with ⟨r, hrr, hK⟩ | ⟨hrr, _⟩
            · refine opIn_enter hnd (run_call (hent rfl) hop hcal he w) ((hrr rfl _ _ _ _ _ hr.srel hpw).mono fun e w' ⟨v, r', s', β', he', ⟨hq1, hq2⟩, k1, k2, k3, k4⟩ => ⟨v, he', ?_⟩)
              subst hq1 hq2
              have hr' := hr.step k1 k2 k3 o.dst hd (gw o true r') v (by
                unfold gw
                split
                · exact k4
                · exact rv_gwhen (fun _ => k4) (fun e => by cases e))
              have e : (st.setS st.s).put o.dst (gw o true r') = st.put o.dst (gw o true r') := rfl
              rw [e] at hr'
              exact hn _ _ _ _ hK hr'
            · refine opIn_enter hnd (run_call (hent rfl) hop hcal he w) ((hrr rfl _ _ _ _ _ hr.srel hpw).mono fun e w' ⟨v, r, s', β', he', hK, k1, k2, k3, k4⟩ => ⟨v, he', ?_⟩)
              exact hn _ _ _ _ hK (hr.step k1 k2 k3 _ hd _ _ k4)
          | false =>
            rw [if_neg (by simp)]
            rcases hcall with ⟨r, _, hK⟩ | ⟨_, hK⟩
            · refine hn _ _ _ _ hK (hr.put _ hd _ _ ?_)
              unfold gw
              split
              · rename_i e; exact absurd (hg0 e) (by simp)
              · exact rv_gwhen (fun e => by cases e) (fun _ => rfl)
            · exact hn _ _ _ _ (hK rfl) (hr.put _ hd _ _ (.dead _))
      · rename_i l
        obtain ⟨_, h⟩ := h
        obtain ⟨das, ⟨hy, hno⟩, hdas⟩ := evgs_sound _ h
        cases g with
        | true =>
          rw [if_pos rfl]
          obtain ⟨xs, ys, he, hl1, hl2, _, _⟩ := rv_clo (hdf rfl _ _ _ _ (hr.ev x))
          have hxs : xs = [] := List.length_eq_zero_iff.1 (by simpa using hl1.symm)
          have hys : ys = [] := List.length_eq_zero_iff.1 (by simpa using hl2.symm)
          subst hxs hys
          have hargs := hdas rfl _ _ _ _ (pw_ev hr.ev c.args.toList)
          obtain ⟨r, hl, hsz, hrd⟩ := hY _ _ _ _ _ (hy rfl) β w _ hr.srel hr.ext hr.nxb hr.hs hargs
          refine opIn_round hnd (run_yieldCall hop hcal he hl (by simpa using hsz)) (hrd.mono fun e w' ⟨b, cd, s', β', he', hK, k1, k2, k3, k4⟩ => ⟨_, he', ?_⟩)
          exact hn _ _ _ _ hK (hr.yielded k1 k2 k3 k4 _ hd b)
        | false =>
          rw [if_neg (by simp)]
          exact hn _ _ _ _ (hno rfl) (hr.put _ hd _ _ (.dead _))
      · exact h.elim
    · exact eff h
    · exact eff h
    · exact eff h
    · exact eff h
    · exact quiet (dq_sound _ h)
  · exact quiet (dq_sound _ h)
theorem dstep_quiet [Inhabited GlobS] {P : Program} {Y : YT} {ops : Array Oper} {o : Oper} {st : St} {K : St → Prop} {G : Org} (hd : (o.dst.all fun t => decide (t < G.N)) = true) (h : dstep P Y ops true o st K) {β : Beta} {a : Act} {w : World} (hr : Rel G st β a w) :
    ∃ st' v, K st' ∧ (Region.wanted o (yielded ops a.tmps) = true → ∀ w', BelowD w.heap.size w w' → o.quietAt P a (fun w' => BelowD w.heap.size w w') w' v) ∧ (Region.wanted o (yielded ops a.tmps) = false → v = undef) ∧ Rel G st' β (a.put o.dst v) w := by
  obtain ⟨g, h, hg0, hg⟩ := dgd_sound h
  have hg := hg _ _ _ a hr.tm
  rw [hg]
  have skip : ∀ d, g = false → K (st.put o.dst (gw o g d)) → ∃ st' v, K st' ∧ (g = true → ∀ w', BelowD w.heap.size w w' → o.quietAt P a (fun w' => BelowD w.heap.size w w') w' v) ∧ (g = false → v = undef) ∧ Rel G st' β (a.put o.dst v) w := fun d e hK => by
    refine ⟨_, undef, hK, fun e' => (by rw [e] at e'; cases e'), fun _ => rfl, hr.put _ hd _ _ ?_⟩
    unfold gw
    split
    · rename_i e'; exact absurd (hg0 e') (by rw [e]; simp)
    · exact rv_gwhen (fun e' => by rw [e] at e'; cases e') (fun _ => rfl)
  have quiet : (∃ d, K (st.put o.dst (gw o g d)) ∧ (g = true → QSem P st.s o.op (ev st.tm) d)) →
      ∃ st' v, K st' ∧ (g = true → ∀ w', BelowD w.heap.size w w' → o.quietAt P a (fun w' => BelowD w.heap.size w w') w' v) ∧ (g = false → v = undef) ∧ Rel G st' β (a.put o.dst v) w := fun ⟨d, hK, hq⟩ => by
    by_cases e : g = true
    · obtain ⟨v, hv, hrun⟩ := hq e _ _ _ _ _ hr.srel.obsF hr.ev
      refine ⟨_, v, hK, fun _ w' hb => ?_, fun e' => (by rw [e] at e'; cases e'), hr.put _ hd _ _ ?_⟩
      · unfold Oper.quietAt
        rw [hrun o w' rfl (.of_below hb)]
        exact ⟨rfl, rfl⟩
      · unfold gw
        split
        · exact hv
        · exact rv_gwhen (fun _ => hv) (fun e' => by rw [e] at e'; cases e')
    · exact skip d (by simpa using e) hK
  have eff : deff P true o g st K → ∃ st' v, K st' ∧ (g = true → ∀ w', BelowD w.heap.size w w' → o.quietAt P a (fun w' => BelowD w.heap.size w w') w' v) ∧ (g = false → v = undef) ∧ Rel G st' β (a.put o.dst v) w := fun ⟨h, _⟩ => by cases h
  split at h
  · exact eff h
  · exact eff h
  · exact eff h
  · exact eff h
  · exact eff h
  · exact eff h
  · exact eff h
  · rename_i c hop
    split at h
    · rename_i x hcal
      obtain ⟨df, h, hdf⟩ := evg_sound _ h
      split at h
      · rename_i fid first cap
        obtain ⟨hent, h⟩ := h
        obtain ⟨das, h, hdas⟩ := evgs_sound _ h
        have h : PCall P fid (first ++ das ++ cap) st.s g fun r => K (st.put o.dst (gw o g r)) := h
        · obtain ⟨r, hrr, hK⟩ := h
          by_cases e : g = true
          · obtain ⟨hsc, hp⟩ := hrr e
            obtain ⟨xs, ys, he, hl1, hl2, hp1, hp2⟩ := rv_clo (hdf e _ _ _ _ (hr.ev x))
            have hargs := hdas e _ _ _ _ (pw_ev hr.ev c.args.toList)
            have hpw : Pw w (Fr G.w0 G.F0 st.s β) β (first ++ das ++ cap) (xs ++ c.args.toList.map a.eval ++ ys) := pw_append (pw_append ⟨hl1, hp1⟩ hargs) ⟨hl2, hp2⟩
            refine ⟨_, svalOf r, hK, fun _ w' hb => ?_, fun e' => (by rw [e] at e'; cases e'), hr.put _ hd _ _ ?_⟩
            · unfold Oper.quietAt
              rw [run_call (hent e) hop hcal he]
              refine ⟨rfl, ?_⟩
              obtain ⟨k1, k2⟩ := hr.srel.below' hb
              have hpw' : Pw w' (Fr G.w0 G.F0 st.s β) β (first ++ das ++ cap) (xs ++ c.args.toList.map a.eval ++ ys) := ⟨hpw.1, fun i d x h1 h2 => RV.ext hr.srel (Nat.le_refl _) (k2 _) (hpw.2 i d x h1 h2)⟩
              exact (hp _ _ _ _ _ k1 hpw').mono fun e w'' ⟨h1, h2⟩ => ⟨h1, hb.trans (h2.mono hb.size)⟩
            · have hsv : RV w (Fr G.w0 G.F0 st.s β) β r (svalOf r) := rv_svalOf hsc
              unfold gw
              split
              · exact hsv
              · exact rv_gwhen (fun _ => hsv) (fun e' => by rw [e] at e'; cases e')
          · exact skip r (by simpa using e) hK
      · exact absurd h.1 (by simp)
      · exact h.elim
    · exact eff h
    · exact eff h
    · exact eff h
    · exact eff h
    · exact quiet (dq_sound _ h)
  · exact quiet (dq_sound _ h)
theorem dops_sound [Inhabited GlobS] {P : Program} {Y : YT} {ops : Array Oper} {G : Org} (hY : YOk P G Y) {Q : Exit → Act → World → Prop} (l : List Oper) (hnd : ∀ o ∈ l, noDefer o = true) (hd : ∀ o ∈ l, (o.dst.all fun t => decide (t < G.N)) = true) : ∀ {st : St} {K : St → Prop}, dops P Y ops false l st K →
    ∀ {β : Beta} {a : Act} {w : World}, Rel G st β a w → (∀ st' β' a' w', K st' → Rel G st' β' a' w' → Q .normal a' w') → listIn G.rd P ops Q l a w := by
  induction l with
  | nil => intro st K h β a w hr hQ; exact hQ _ _ _ _ h hr
  | cons o l ih =>
    intro st K h β a w hr hQ
    have := dstep_sound hY (hnd o (List.mem_cons_self ..)) (hd o (List.mem_cons_self ..)) h hr (next := listIn G.rd P ops Q l) (Q := Q) (fun st' β' a' w' hK hr' => ih (fun o ho => hnd o (List.mem_cons_of_mem _ ho)) (fun o ho => hd o (List.mem_cons_of_mem _ ho)) hK hr' hQ)
    unfold listIn
    exact this
theorem dops_quiet [Inhabited GlobS] {P : Program} {Y : YT} {ops : Array Oper} {G : Org} {w : World} {β : Beta} {Q : Act → Prop} (l : List Oper) (hd : ∀ o ∈ l, (o.dst.all fun t => decide (t < G.N)) = true) : ∀ {st : St} {K : St → Prop}, dops P Y ops true l st K →
    ∀ {a : Act}, Rel G st β a w → (∀ st' a', K st' → Rel G st' β a' w → Q a') → wpQuiet P ops (fun w' => BelowD w.heap.size w w') Q l a := by
  induction l with
  | nil => intro st K h a hr hQ; exact hQ _ _ h hr
  | cons o l ih =>
    intro st K h a hr hQ
    obtain ⟨st', v, hK, h1, h2, hr'⟩ := dstep_quiet (hd o (List.mem_cons_self ..)) h hr
    have := ih (fun o ho => hd o (List.mem_cons_of_mem _ ho)) hK hr' hQ
    unfold wpQuiet
    split
    · rename_i hw; exact ⟨v, fun w' hb => h1 hw w' hb, this⟩
    · rename_i hw; rw [h2 (by simpa using hw)] at this; exact this
end Go.Dl
