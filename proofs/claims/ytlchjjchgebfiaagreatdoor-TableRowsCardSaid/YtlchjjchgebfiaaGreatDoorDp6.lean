/-
  The data-level logic, part 6: operations that make or write owned objects ('de'), and their soundness.
-/
import Derived.Test.YtlchjjchgebfiaaGreatDoorDp5

namespace Go.Dl
open Go Go.RowKit
def DV.one : DV → Bool
  | .v _ | .lst .. | .lref .. | .ref .. | .arr .. | .sub .. | .clo .. | .ifc .. | .mo .. => true
  | _ => false
theorem rv_one {w : World} {F : Nat → Prop} {β : Beta} {d : DV} {x : Value} (h : RV w F β d x) (hd : d.one = true) : x.oneCell' = true := by
  cases h with
  | data h => exact h.one
  | agg | tup | dead => cases hd
  | whn => cases hd
  | _ => rfl
theorem SRel.retake [Inhabited GlobS] {w0 : World} {F0 : Nat → Prop} {s : Sto} {β : Beta} {w : World} (h : SRel w0 F0 s β w) (id : Nat) (o : DObj) (hob : s.ob id = some o)
    (b c : Nat) (hb : β id = some (some (b, c))) (id' nx' : Nat) (hid : β id' = none) (hob' : s.ob id' = none) (hnx : s.nx ≤ nx') (hlt : id' < nx')
    (w' : World) (cur' : Array Value) (o' : DObj) (hel : o'.sz = o.sz) (hbel : BelowD b w w') (hoth : ∀ k, k ≠ b → w'.heap[k]? = w.heap[k]?)
    (hnew : w'.heap[b]? = some (blk cur' o'.elem)) (hsz : cur'.size = c * o.sz) (hlen : o'.cells.length ≤ cur'.size)
    (hcur : ∀ (j : Nat) d, o'.cells[j]? = some d → ∃ x, cur'[j]? = some x ∧ RV w (Fr w0 F0 s β) β d x) :
    SRel w0 F0 ⟨upd (upd s.ob id none) id' (some o'), nx'⟩ (upd β id' (some (some (b, c)))) w' ∧
    ∀ n, Ext n w0 nX s β w ⟨upd (upd s.ob id none) id' (some o'), nx'⟩ (upd β id' (some (some (b, c)))) w' := by
  have hne : id ≠ id' := fun e => by subst e; rw [hid] at hb; cases hb
  rcases h.obs id o hob with h2 | ⟨b', c', cur, g1, g2, g3, g4, g5, g6, g7⟩
  · rw [h2.1] at hb; cases hb
  rw [g1] at hb
  simp only [Option.some.injEq, Prod.mk.injEq] at hb
  obtain ⟨rfl, rfl⟩ := hb
  have hgrow : ∀ i p, β i = some p → upd β id' (some (some (b', c'))) i = some p := fun i p hp => by
    by_cases e : i = id'
    · subst e; rw [hid] at hp; cases hp
    · rw [upd_ne _ _ _ e]; exact hp
  -- an object of the new store other than id' is an object of the old one other than id
  have hold : ∀ i, i ≠ id' → ((upd (upd s.ob id none) id' (some o')) i).isSome = true → i ≠ id ∧ (s.ob i).isSome = true ∧ (upd (upd s.ob id none) id' (some o')) i = s.ob i := fun i e hi => by
    rw [upd_ne _ _ _ e] at hi ⊢
    by_cases e2 : i = id
    · subst e2; simp at hi
    · rw [upd_ne _ _ _ e2] at hi ⊢; exact ⟨e2, hi, rfl⟩
  have hnF : ¬ Un w0 s β b' := fun hF => by
    rcases hF with hF | hF
    · omega
    · exact hF.2 id c' (by simp [hob]) g1
  have hext : ∀ n, Ext n w0 nX s β w ⟨upd (upd s.ob id none) id' (some o'), nx'⟩ (upd β id' (some (some (b', c')))) w' := fun n =>
    ⟨fun i _ p hp => hgrow i p hp, hbel.size, fun b2 hb2 _ hF => by
      have hne2 : b2 ≠ b' := fun e => hnF (by rw [← e]; exact hF)
      refine ⟨?_, hoth b2 hne2⟩
      rcases hF with hF | ⟨k1, k2⟩
      · exact .inl hF
      · refine .inr ⟨k1, fun i c2 hi => ?_⟩
        by_cases e : i = id'
        · subst e; simp; intro e; exact absurd e.symm hne2
        · obtain ⟨_, hi2, _⟩ := hold i e hi
          rw [upd_ne _ _ _ e]; exact k2 i c2 hi2⟩
  refine ⟨⟨h.below.trans (hbel.mono g2), fun i oi hi => ?_, fun i j b2 c1 c2 hi hj hbi hbj => ?_, fun i hi => ?_, fun b2 hb2 => h.up b2 (Nat.le_trans hbel.size hb2), fun i b2 c2 hi hb2 => ?_, h.gl⟩, hext⟩
  · by_cases e : i = id'
    · subst e
      simp only [upd_same, Option.some.injEq] at hi
      subst hi
      refine .inr ⟨b', c', cur', by simp, g2, hnew, by rw [hsz, hel], g5, hlen, fun j d hj => ?_⟩
      obtain ⟨x, hx, hr⟩ := hcur j d hj
      exact ⟨x, hx, RV.ext h (Nat.le_refl _) (hext _) hr⟩
    · have hi : upd (upd s.ob id none) id' (some o') i = some oi := hi
      obtain ⟨e2, hi2, hi3⟩ := hold i e (by rw [hi]; rfl)
      rw [hi3] at hi
      rcases h.obs i oi hi with k1 | ⟨b2, c2, cur2, k1, k2, k3, k4, k5, k6, k7⟩
      · exact .inl ⟨hgrow _ _ k1.1, k1.2⟩
      · refine .inr ⟨b2, c2, cur2, hgrow _ _ k1, k2, ?_, k4, k5, k6, fun j d hj => ?_⟩
        · rw [hoth b2 (fun e3 => e2 (h.inj i id b2 c2 c' hi2 (by simp [hob]) k1 (by rw [g1, e3])))]; exact k3
        · obtain ⟨x, hx, hr⟩ := k7 j d hj
          exact ⟨x, hx, RV.ext h (Nat.le_refl _) (hext _) hr⟩
  · by_cases e : i = id'
    · by_cases e' : j = id'
      · rw [e, e']
      · subst e
        obtain ⟨e2, hj2, _⟩ := hold j e' hj
        simp only [upd_same, upd_ne _ _ _ e', Option.some.injEq, Prod.mk.injEq] at hbi hbj
        exact absurd (h.inj j id b2 c2 c' hj2 (by simp [hob]) hbj (by rw [g1, hbi.1])) e2
    · obtain ⟨e2, hi2, _⟩ := hold i e hi
      by_cases e' : j = id'
      · subst e'
        simp only [upd_same, upd_ne _ _ _ e, Option.some.injEq, Prod.mk.injEq] at hbi hbj
        exact absurd (h.inj i id b2 c1 c' hi2 (by simp [hob]) hbi (by rw [g1, hbj.1])) e2
      · obtain ⟨_, hj2, _⟩ := hold j e' hj
        simp only [upd_ne _ _ _ e, upd_ne _ _ _ e'] at hbi hbj
        exact h.inj i j b2 c1 c2 hi2 hj2 hbi hbj
  · have hi' : nx' ≤ i := hi
    have hne1 : i ≠ id' := by omega
    have := h.nx i (Nat.le_trans hnx hi)
    have hne2 : i ≠ id := fun e => by subst e; rw [hob] at this; cases this.2
    simp only [upd_ne _ _ _ hne1, upd_ne _ _ _ hne2]; exact this
  · by_cases e : i = id'
    · subst e
      simp only [upd_same, Option.some.injEq, Prod.mk.injEq] at hb2
      rw [← hb2.1]
      exact h.own id b' c' (by simp [hob]) g1
    · obtain ⟨_, hi2, _⟩ := hold i e hi
      rw [upd_ne _ _ _ e] at hb2
      exact h.own i b2 c2 hi2 hb2
theorem SRel.rewrite [Inhabited GlobS] {w0 : World} {F0 : Nat → Prop} {s : Sto} {β : Beta} {w : World} (h : SRel w0 F0 s β w) (id : Nat) (o : DObj) (hob : s.ob id = some o)
    (b c : Nat) (hb : β id = some (some (b, c))) (w' : World) (cur' : Array Value) (cells' : List DV) (hbel : BelowD b w w') (hoth : ∀ k, k ≠ b → w'.heap[k]? = w.heap[k]?)
    (hnew : w'.heap[b]? = some (blk cur' o.elem)) (hsz : cur'.size = c * o.sz) (hlen : cells'.length ≤ cur'.size)
    (hcur : ∀ (j : Nat) d, cells'[j]? = some d → ∃ x, cur'[j]? = some x ∧ RV w (Fr w0 F0 s β) β d x) :
    SRel w0 F0 ⟨upd s.ob id (some { o with cells := cells' }), s.nx⟩ β w' ∧ ∀ n, Ext n w0 nX s β w ⟨upd s.ob id (some { o with cells := cells' }), s.nx⟩ β w' := by
  rcases h.obs id o hob with h2 | ⟨b', c', cur, g1, g2, g3, g4, g5, g6, g7⟩
  · rw [h2.1] at hb; cases hb
  rw [g1] at hb
  simp only [Option.some.injEq, Prod.mk.injEq] at hb
  obtain ⟨rfl, rfl⟩ := hb
  have hsome : ∀ i, ((upd s.ob id (some { o with cells := cells' })) i).isSome = (s.ob i).isSome := fun i => by
    by_cases e : i = id
    · subst e; simp [hob]
    · rw [upd_ne _ _ _ e]
  have hfr : ∀ b2, Un w0 ⟨upd s.ob id (some { o with cells := cells' }), s.nx⟩ β b2 ↔ Un w0 s β b2 := fun b2 => by simp only [Un, hsome]
  have hnF : ¬ Un w0 s β b' := fun hF => by
    rcases hF with hF | hF
    · omega
    · exact hF.2 id c' (by simp [hob]) g1
  have hext : ∀ n, Ext n w0 nX s β w ⟨upd s.ob id (some { o with cells := cells' }), s.nx⟩ β w' := fun n =>
    ⟨fun _ _ _ hp => hp, hbel.size, fun b2 hb2 _ hF => ⟨(hfr b2).2 hF, hoth b2 (fun e => hnF (by rw [← e]; exact hF))⟩⟩
  refine ⟨⟨h.below.trans (hbel.mono g2), fun i oi hi => ?_, fun i j b2 c1 c2 hi hj => h.inj i j b2 c1 c2 (by rw [← hsome]; exact hi) (by rw [← hsome]; exact hj), fun i hi => ?_, fun b2 hb2 => h.up b2 (Nat.le_trans hbel.size hb2), fun i b2 c2 hi hb2 => h.own i b2 c2 (by rw [← hsome]; exact hi) hb2, h.gl⟩, hext⟩
  · by_cases e : i = id
    · subst e
      simp only [upd_same, Option.some.injEq] at hi
      subst hi
      refine .inr ⟨b', c', cur', g1, g2, hnew, hsz, g5, hlen, fun j d hj => ?_⟩
      obtain ⟨x, hx, hr⟩ := hcur j d hj
      exact ⟨x, hx, RV.ext h (Nat.le_refl _) (hext _) hr⟩
    · simp only [upd_ne _ _ _ e] at hi
      rcases h.obs i oi hi with k1 | ⟨b2, c2, cur2, k1, k2, k3, k4, k5, k6, k7⟩
      · exact .inl k1
      · refine .inr ⟨b2, c2, cur2, k1, k2, ?_, k4, k5, k6, fun j d hj => ?_⟩
        · rw [hoth b2 (fun e3 => e (h.inj i id b2 c2 c' (by simp [hi]) (by simp [hob]) k1 (by rw [g1, e3])))]; exact k3
        · obtain ⟨x, hx, hr⟩ := k7 j d hj
          exact ⟨x, hx, RV.ext h (Nat.le_refl _) (hext _) hr⟩
  · have hne : i ≠ id := fun e => by subst e; have := (h.nx i hi).2; rw [hob] at this; cases this
    rw [show (Sto.mk (upd s.ob id (some { o with cells := cells' })) s.nx).ob i = s.ob i from upd_ne _ _ _ hne]
    exact h.nx i hi
theorem SRel.nilObj [Inhabited GlobS] {w0 : World} {F0 : Nat → Prop} {s : Sto} {β : Beta} {w : World} (h : SRel w0 F0 s β w) (id nx' : Nat) (hid : β id = none) (hob : s.ob id = none) (hnx : s.nx ≤ nx') (hlt : id < nx') (o : DObj) (ho : o.cells = []) :
    SRel w0 F0 ⟨upd s.ob id (some o), nx'⟩ (upd β id (some none)) w ∧ ∀ n, Ext n w0 nX s β w ⟨upd s.ob id (some o), nx'⟩ (upd β id (some none)) w := by
  have hgrow : ∀ i p, β i = some p → upd β id (some none) i = some p := fun i p hp => by
    by_cases e : i = id
    · subst e; rw [hid] at hp; cases hp
    · rw [upd_ne _ _ _ e]; exact hp
  have hext : ∀ n, Ext n w0 nX s β w ⟨upd s.ob id (some o), nx'⟩ (upd β id (some none)) w := fun n =>
    ⟨fun i _ p hp => hgrow i p hp, Nat.le_refl _, fun b hb _ hF => by
      refine ⟨?_, rfl⟩
      rcases hF with hF | ⟨h1, h2⟩
      · exact .inl hF
      · refine .inr ⟨h1, fun i c' hi => ?_⟩
        by_cases e : i = id
        · subst e; simp
        · simp only [upd_ne _ _ _ e] at hi ⊢; exact h2 i c' hi⟩
  refine ⟨⟨h.below, fun i oi hi => ?_, fun i j b c1 c2 hi hj hbi hbj => ?_, fun i hi => ?_, h.up, fun i b c hi hbi => ?_, h.gl⟩, hext⟩
  · by_cases e : i = id
    · subst e
      simp only [upd_same, Option.some.injEq] at hi
      subst hi
      exact .inl ⟨by simp, ho⟩
    · simp only [upd_ne _ _ _ e] at hi
      rcases h.obs i oi hi with k1 | ⟨b2, c2, cur2, k1, k2, k3, k4, k5, k6, k7⟩
      · exact .inl ⟨hgrow _ _ k1.1, k1.2⟩
      · exact .inr ⟨b2, c2, cur2, hgrow _ _ k1, k2, k3, k4, k5, k6, fun j d hj => by
          obtain ⟨x, hx, hr⟩ := k7 j d hj
          exact ⟨x, hx, RV.ext h (Nat.le_refl _) (hext _) hr⟩⟩
  · have n1 : i ≠ id := fun e => by subst e; simp at hbi
    have n2 : j ≠ id := fun e => by subst e; simp at hbj
    simp only [upd_ne _ _ _ n1, upd_ne _ _ _ n2] at hi hj hbi hbj
    exact h.inj i j b c1 c2 hi hj hbi hbj
  · have hi' : nx' ≤ i := hi
    have hne : i ≠ id := by omega
    have := h.nx i (Nat.le_trans hnx hi)
    simp only [upd_ne _ _ _ hne]; exact this
  · have n1 : i ≠ id := fun e => by subst e; simp at hbi
    simp only [upd_ne _ _ _ n1] at hi hbi
    exact h.own i b c hi hbi
def elemI (P : Program) (t : TypeId) : Option (TypeId × Nat × Nat × List DV) :=
  match P.underlying t with
  | some (.slice e) => (match P.info? e, zeroDV P e with
    | some i, some z => if i.size = z.length ∧ 0 < i.size then some (e, i.size, i.bytes, z) else none
    | _, _ => none)
  | _ => none
def tySz (P : Program) (t : TypeId) : Option Nat := (P.info? t).map (·.size)
def newOb (s : Sto) (o : DObj) : Sto := ⟨upd s.ob s.nx (some o), s.nx + 1⟩
def dsrc (s : Sto) (sz : Nat) : DV → Option (Nat × List DV)
  | .arr id m => match s.ob id with
    | some o => if (m * sz ≤ o.cells.length ∧ (o.cells.take (m * sz)).all DV.one = true) ∧ Nat.beq o.elem MAPT = false then some (m, o.cells.take (m * sz)) else none
    | none => none
  | .sub id off m => match s.ob id with
    | some o => if (off + m * sz ≤ o.cells.length ∧ ((o.cells.drop off).take (m * sz)).all DV.one = true) ∧ Nat.beq o.elem MAPT = false then some (m, (o.cells.drop off).take (m * sz)) else none
    | none => none
  | .lst sz' es => if sz' = sz then some (es.length, es.flatten) else none
  | .v (.slice none 0 0) => some (0, [])
  | .v (.slice (some _) 0 _) => some (0, [])
  | _ => none
def dsrcK (s : Sto) (sz : Nat) (d : DV) (K : Nat → List DV → Prop) : Prop :=
  match d with
  | .arr id m => (match s.ob id with
    | some o => cellsO o.elem <| (m * sz ≤ o.cells.length ∧ (o.cells.take (m * sz)).all DV.one = true) ∧ K m (o.cells.take (m * sz))
    | none => False)
  | .sub id off m => (match s.ob id with
    | some o => cellsO o.elem <| (off + m * sz ≤ o.cells.length ∧ ((o.cells.drop off).take (m * sz)).all DV.one = true) ∧ K m ((o.cells.drop off).take (m * sz))
    | none => False)
  | .lst sz' es => if sz' = sz then K es.length es.flatten else False
  | .v (.slice none 0 0) => K 0 []
  | .v (.slice (some _) 0 _) => K 0 []
  | _ => False
theorem dsrcK_sound {s : Sto} {sz : Nat} {d : DV} {K : Nat → List DV → Prop} (h : dsrcK s sz d K) : ∃ m news, dsrc s sz d = some (m, news) ∧ K m news := by
  unfold dsrcK at h
  split at h
  · split at h
    · rename_i o ho
      obtain ⟨hm, hc, h⟩ := cellsO_is h
      exact ⟨_, _, by simp only [dsrc, ho]; rw [if_pos ⟨hc, hm⟩], h⟩
    · exact h.elim
  · split at h
    · rename_i o ho
      obtain ⟨hm, hc, h⟩ := cellsO_is h
      exact ⟨_, _, by simp only [dsrc, ho]; rw [if_pos ⟨hc, hm⟩], h⟩
    · exact h.elim
  · split at h
    · rename_i e
      exact ⟨_, _, by simp only [dsrc]; rw [if_pos e], h⟩
    · exact h.elim
  · exact ⟨_, _, rfl, h⟩
  · exact ⟨_, _, rfl, h⟩
  · exact h.elim
inductive AppC (A B : Prop) : Prop
  | new (h : A)
  | here (h : B)
def dapp (P : Program) (s : Sto) (t : TypeId) (dx dy : DV) (K : DV → Sto → Prop) : Prop :=
  match elemI P t with
  | some (e, sz, bytes, _) => cellsO e <| dsrcK s sz dy fun m news => (match dx with
      | .v (.slice none 0 0) => (m * bytes ≤ 140737488355328 ∧ m ≤ maxLen) ∧ K (.arr s.nx m) ⟨upd s.ob s.nx (some ⟨e, sz, news⟩), s.nx + 1⟩
      | .arr id n => (match s.ob id with
        | some o => AppC ((o.elem = e ∧ o.sz = sz ∧ n * sz ≤ o.cells.length ∧ (n + m) * bytes ≤ 140737488355328 ∧ n + m ≤ maxLen) ∧
            K (.arr s.nx (n + m)) ⟨upd (upd s.ob id none) s.nx (some ⟨e, sz, o.cells.take (n * sz) ++ news⟩), s.nx + 1⟩)
          ((o.elem = e ∧ o.sz = sz ∧ (n + m) * sz ≤ o.cells.length) ∧
            K (.arr id (n + m)) ⟨upd s.ob id (some { o with cells := o.cells.take (n * sz) ++ news ++ o.cells.drop (n * sz + m * sz) }), s.nx⟩)
        | none => False)
      | _ => False)
  | none => False
def etgt (ρ : Operand → DV) : Op → Option Nat
  | .store _ a _ => (match str0 (ρ a) with | .ref id _ => some id | _ => none)
  | .mapUpdate _ m _ _ => (match str0 (ρ m) with | .mo id => some id | _ => none)
  | .call c => (match c.args.toList with
    | [x, _] => (match str0 (ρ x) with | .arr id _ => some id | .sub id _ _ => some id | _ => none)
    | [x] => (match str0 (ρ x) with | .arr id _ => some id | .sub id _ _ => some id | _ => none)
    | _ => none)
  | _ => none
def Oth (β : Beta) (tg : Option Nat) (w w' : World) : Prop := ∀ b, b < w.heap.size → (∀ i c, tg = some i → β i ≠ some (some (b, c))) → w'.heap[b]? = w.heap[b]?
def Nb (s s' : Sto) (β β' : Beta) (tg : Option Nat) (w : World) : Prop := ∀ i b c, (s'.ob i).isSome = true → β' i = some (some (b, c)) → b < w.heap.size →
  ((s.ob i).isSome = true ∧ β i = some (some (b, c))) ∨ ∃ τ c', tg = some τ ∧ (s.ob τ).isSome = true ∧ β τ = some (some (b, c'))
theorem Nb.new {s s' : Sto} {β β' : Beta} {tg : Option Nat} {w : World} (k : Nat) (h1 : ∀ i, i ≠ k → (s'.ob i).isSome = true → (s.ob i).isSome = true) (h2 : ∀ i, i ≠ k → β' i = β i) (h3 : ∀ b c, β' k = some (some (b, c)) → w.heap.size ≤ b) : Nb s s' β β' tg w :=
  fun i b c hi hb hlt => by
    by_cases e : i = k
    · subst e; have := h3 b c hb; omega
    · exact .inl ⟨h1 i e hi, by rw [← h2 i e]; exact hb⟩
theorem Oth.alloc {β : Beta} {tg : Option Nat} (w : World) (o : Obj) : Oth β tg w (w.alloc o) := fun _ hb _ => heap_alloc_old w o hb
def ESem [Inhabited GlobS] (P : Program) (s : Sto) (op : Op) (ρ : Operand → DV) (K : DV → Sto → Prop) : Prop :=
  ∀ (w0 : World) (F0 : Nat → Prop) (β : Beta) (w : World) (a : Act), SRel w0 F0 s β w → (∀ x, RV w (Fr w0 F0 s β) β (ρ x) (a.eval x)) →
    ∃ nx v w' d s' β', (nx = .value v ∨ (nx = .skip ∧ v = undef)) ∧ (∀ (o : Oper), o.op = op → (execOp a.eval o).run P w = .ok nx w') ∧ K d s' ∧
      SRel w0 F0 s' β' w' ∧ Ext s.nx w0 nX s β w s' β' w' ∧ s.nx ≤ s'.nx ∧ RV w' (Fr w0 F0 s' β') β' d v ∧ Oth β (etgt ρ op) w w' ∧ Nb s s' β β' (etgt ρ op) w
def dclear (P : Program) (s : Sto) (t : TypeId) (dx : DV) (K : DV → Sto → Prop) : Prop :=
  match elemI P t with
  | some (_, sz, _, z) => (match dx with
    | .sub id off len => (match s.ob id with
      | some o => cellsO o.elem <| (o.sz = sz ∧ off + len * sz ≤ o.cells.length) ∧ K (.tup []) ⟨upd s.ob id (some { o with cells := o.cells.take off ++ (List.replicate len z).flatten ++ o.cells.drop (off + len * sz) }), s.nx⟩
      | none => False)
    | .arr id len => (match s.ob id with
      | some o => cellsO o.elem <| (o.sz = sz ∧ len * sz ≤ o.cells.length) ∧ K (.tup []) ⟨upd s.ob id (some { o with cells := (List.replicate len z).flatten ++ o.cells.drop (len * sz) }), s.nx⟩
      | none => False)
    | _ => False)
  | none => False
noncomputable def de [Inhabited GlobS] (P : Program) (s : Sto) (ρ : Operand → DV) : Op → (DV → Sto → Prop) → Prop
  | .alloc e, K => (match zeroDV P e with
    | some z => cellsO e (forceL z fun z => K (.ref s.nx 0) (newOb s ⟨e, z.length, z⟩))
    | none => False)
  | .box e x, K => evg true (ρ x) fun d => (match cellsOfDV d with
    | some ds => cellsO e (K (.ref s.nx 0) (newOb s ⟨e, ds.length, ds⟩))
    | none => False)
  | .buildSlice t len parts, K => (match elemI P t with
    | some (e, sz, _, z) => cellsO e <| len * sz ≤ 16777216 ∧ dfill ρ true (fun i => some (i * sz, sz)) parts.toList (List.replicate len z).flatten fun cs => forceL cs fun cs => K (.arr s.nx len) (newOb s ⟨e, sz, cs⟩)
    | none => False)
  | .makeSlice t l c, K => evg true (ρ l) fun dl => evg true (ρ c) fun dc => (match elemI P t with
    | some (e, sz, bytes, z) => cellsO e (match dl, dc with
      | .v (.int _ l), .v (.int _ c) => (0 ≤ l ∧ l ≤ c ∧ c * bytes ≤ 281474976710656 ∧ c ≤ 9223372036854775807) ∧ K (.arr s.nx l.toNat) (newOb s ⟨e, sz, (List.replicate c.toNat z).flatten⟩)
      | _, _ => False)
    | none => False)
  | .store t a x, K => evg true (ρ a) fun da => evg true (ρ x) fun dx => (match da with
    | .ref id off => (match s.ob id, cellsOfDV dx, tySz P t with
      | some o, some ds, some n => cellsO o.elem <| (forceN ds.length fun m => m = n ∧ off + m ≤ o.cells.length ∧ ds.all DV.one = true) ∧ K (.tup []) ⟨upd s.ob id (some { o with cells := setMany o.cells off ds }), s.nx⟩
      | _, _, _ => False)
    | _ => False)
  | .call c, K => (match c.callee, c.args.toList, c.argTypes.toList with
    | .builtin .append, [x, y], [t, t'] => cond (Nat.beq t t') ((t = t') ∧ evg true (ρ x) fun dx => evg true (ρ y) fun dy => dapp P s t dx dy K) (ESem P s (.call c) ρ K)
    | .builtin .clear, [x], [t] => evg true (ρ x) fun dx => dclear P s t dx K
    | _, _, _ => ESem P s (.call c) ρ K)
  | .makeMap _ none, K => K (.mo s.nx) (newOb s ⟨MAPT, 1, [.agg [.dead]]⟩)
  | .mapUpdate t m k x, K => ESem P s (.mapUpdate t m k x) ρ K
  | _, _ => False
theorem SRel.fresh [Inhabited GlobS] {w0 : World} {F0 : Nat → Prop} {s : Sto} {β : Beta} {w : World} (h : SRel w0 F0 s β w) : β s.nx = none ∧ s.ob s.nx = none := h.nx _ (Nat.le_refl _)
theorem SRel.newOb [Inhabited GlobS] {w0 : World} {F0 : Nat → Prop} {s : Sto} {β : Beta} {w : World} (h : SRel w0 F0 s β w) (o : DObj) (hm : Nat.beq o.elem MAPT = false) (cur : Array Value) (c : Nat) (hcs : cur.size = c * o.sz) (hcm : c ≤ maxLen) (hlen : o.cells.length ≤ cur.size)
    (hcur : ∀ (j : Nat) d, o.cells[j]? = some d → ∃ x, cur[j]? = some x ∧ RV w (Fr w0 F0 s β) β d x) :
    ∃ β', β' s.nx = some (some (w.heap.size, c)) ∧ SRel w0 F0 (newOb s o) β' (w.alloc (.cells cur o.elem)) ∧ (∀ n, Ext n w0 nX s β w (newOb s o) β' (w.alloc (.cells cur o.elem))) ∧ ∀ tg, Nb s (newOb s o) β β' tg w := by
  obtain ⟨h1, h2⟩ := h.fresh
  obtain ⟨k1, k2⟩ := h.alloc s.nx h1 h2 (s.nx + 1) (by omega) (by omega) o cur c hcs hcm hlen hcur
  rw [blk_cells hm] at k1 k2
  refine ⟨_, by simp, k1, k2, fun tg => .new s.nx (fun i e hi => ?_) (fun i e => upd_ne _ _ _ e) (fun b c' hb => ?_)⟩
  · simp only [Dl.newOb, upd_ne _ _ _ e] at hi; exact hi
  · simp at hb; omega
theorem zeroDV_some {P : Program} {e : TypeId} {z : List DV} (h : zeroDV P e = some z) : ∃ i zv, P.info? e = some i ∧ i.zero = some zv ∧ z = zv.cells.toList.map .v ∧ zv.cells.toList.all Value.oneCell' = true := by
  unfold zeroDV at h
  split at h
  · rename_i zv hz
    split at h
    · rename_i hall
      obtain ⟨i, h1, h2⟩ := Option.bind_eq_some_iff.1 hz
      simp only [Option.some.injEq] at h
      exact ⟨i, zv, h1, h2, h.symm, hall⟩
    · cases h
  · cases h
theorem pw_zero {w : World} {F : Nat → Prop} {β : Beta} {zv : Value} (hall : zv.cells.toList.all Value.oneCell' = true) : Pw w F β (zv.cells.toList.map .v) zv.cells.toList :=
  ⟨by simp, fun i d y h1 h2 => by
    simp only [List.getElem?_map, h2, Option.map_some, Option.some.injEq] at h1
    subst h1
    exact .data (.v _ (List.all_eq_true.1 hall y (List.mem_of_getElem? h2)))⟩
theorem pw_cur {w : World} {F : Nat → Prop} {β : Beta} {ds : List DV} {cur : Array Value} (h : Pw w F β ds cur.toList) : ∀ (j : Nat) d, ds[j]? = some d → ∃ x, cur[j]? = some x ∧ RV w F β d x := fun j d hj => by
  have hlt : j < cur.toList.length := by rw [← h.1]; exact (List.getElem?_eq_some_iff.1 hj).1
  exact ⟨cur.toList[j], by rw [← Array.getElem?_toList]; exact List.getElem?_eq_getElem hlt, h.2 j d _ hj (List.getElem?_eq_getElem hlt)⟩
section
variable {P : Program} {s : Sto} {ρ : Operand → DV} {K : DV → Sto → Prop}
theorem esem_alloc [Inhabited GlobS] {e : TypeId} (h : de P s ρ (.alloc e) K) : ESem P s (.alloc e) ρ K := by
  simp only [de] at h
  split at h
  · rename_i z hz
    obtain ⟨hm, h⟩ := cellsO_is h
    rw [forceL_eq] at h
    obtain ⟨i, zv, h1, h2, rfl, hall⟩ := zeroDV_some hz
    intro w0 F0 β w a hs hρ
    have hpw := pw_zero (w := w) (F := Fr w0 F0 s β) (β := β) hall
    obtain ⟨β', hb, g1, g2, gn⟩ := hs.newOb ⟨e, (zv.cells.toList.map DV.v).length, zv.cells.toList.map .v⟩ hm zv.cells 1 (by simp) (by simp [maxLen]) (by simp) (pw_cur hpw)
    exact ⟨_, .pointer (some ⟨w.heap.size, 0, none⟩), _, _, _, β', .inl rfl, fun o ho => by
      simp [execOp, ho, Instr.alloc, zeroValue, typeInfo, h1, h2, newVar, newRow], h, g1, g2 _, by simp [Dl.newOb], .ref _ _ _ _ hb, .alloc _ _, gn _⟩
  · exact h.elim
theorem esem_box [Inhabited GlobS] {e : TypeId} {x : Operand} (h : de P s ρ (.box e x) K) : ESem P s (.box e x) ρ K := by
  simp only [de] at h
  obtain ⟨d, h, hx⟩ := evg_sound _ h
  split at h
  · rename_i ds hds
    obtain ⟨hm, h⟩ := cellsO_is h
    intro w0 F0 β w a hs hρ
    have hpw := cells_pw (hx rfl _ _ _ _ (hρ x)) hds
    have hl : ds.length = (a.eval x).cells.size := by have := hpw.1; simpa using this
    obtain ⟨β', hb, g1, g2, gn⟩ := hs.newOb ⟨e, ds.length, ds⟩ hm (a.eval x).cells 1 (by simp [hl]) (by simp [maxLen]) (by simp [hl]) (pw_cur hpw)
    exact ⟨_, .pointer (some ⟨w.heap.size, 0, none⟩), _, _, _, β', .inl rfl, fun o ho => by
      simp [execOp, ho, Instr.box, newVar, newRow], h, g1, g2 _, by simp [Dl.newOb], .ref _ _ _ _ hb, .alloc _ _, gn _⟩
  · exact h.elim
theorem elemI_some {t e : TypeId} {sz bytes : Nat} {z : List DV} (h : elemI P t = some (e, sz, bytes, z)) :
    ∃ i zv, P.underlying t = some (.slice e) ∧ P.info? e = some i ∧ i.size = sz ∧ i.bytes = bytes ∧ i.zero = some zv ∧ z = zv.cells.toList.map .v ∧ zv.cells.toList.all Value.oneCell' = true ∧ zv.cells.size = sz ∧ 0 < sz := by
  unfold elemI at h
  split at h
  · rename_i e' h1
    split at h
    · rename_i i z' h2 h3
      split at h
      · rename_i h4
        simp only [Option.some.injEq, Prod.mk.injEq] at h
        obtain ⟨rfl, rfl, rfl, rfl⟩ := h
        obtain ⟨i', zv, k1, k2, k3, k4⟩ := zeroDV_some h3
        rw [h2] at k1
        cases k1
        refine ⟨i, zv, h1, h2, rfl, rfl, k2, k3, k4, ?_, h4.2⟩
        have := h4.1
        rw [k3] at this
        simpa using this.symm
      · cases h
    · cases h
  · cases h
theorem zeros_flat (z : Array Value) (n sz : Nat) (hz : z.size = sz) (h0 : 0 < sz) : ((Array.range (n * sz)).map fun i => z[i % sz]!).toList = (List.replicate n z.toList).flatten := by
  apply List.ext_getElem?
  intro i
  have hl : (List.replicate n z.toList).flatten.length = n * sz := by simp [List.length_flatten, hz]
  by_cases hi : i < n * sz
  · have hm : i % sz < sz := Nat.mod_lt _ h0
    have hd : i / sz < n := Nat.div_lt_of_lt_mul (by rw [Nat.mul_comm]; exact hi)
    rw [Array.getElem?_toList, Array.getElem?_map, Array.getElem?_range, if_pos hi]
    have key : ∀ (n : Nat) (i : Nat), i < n * sz → (List.replicate n z.toList).flatten[i]? = z.toList[i % sz]? := fun n => by
      induction n with
      | zero => intro i hi; omega
      | succ n ih =>
        intro i hi
        rw [List.replicate_succ, List.flatten_cons, List.getElem?_append]
        by_cases h : i < sz
        · rw [if_pos (by simpa [hz] using h), Nat.mod_eq_of_lt h]
        · rw [if_neg (by simp [hz]; omega)]
          have hl2 : z.toList.length = sz := by simpa using hz
          rw [hl2, ih (i - sz) (by rw [Nat.succ_mul] at hi; omega), Nat.mod_eq_sub_mod (by omega : i ≥ sz)]
    rw [key n i hi]
    simp [hz, hm, getElem!_pos]
  · rw [List.getElem?_eq_none (by simp; omega), List.getElem?_eq_none (by omega)]
theorem foldl_size (off : Nat) (l : List (Value × Nat)) : ∀ (xs : Array Value), (l.foldl (fun cs (x : Value × Nat) => cs.setIfInBounds (off + x.2) x.1) xs).size = xs.size := by
  induction l with
  | nil => intro xs; rfl
  | cons q l ih => intro xs; rw [List.foldl_cons, ih]; simp
theorem fill_size (place : Nat → Option (Nat × Nat)) (parts : List (Nat × Value)) : ∀ (xs ys : Array Value), Instr.fill place xs parts = some ys → ys.size = xs.size := by
  induction parts with
  | nil => intro xs ys h; simp [Instr.fill] at h; rw [h]
  | cons p parts ih =>
    intro xs ys h
    obtain ⟨i, v⟩ := p
    simp only [Instr.fill] at h
    split at h
    · cases h
    · split at h
      · cases h
      · rw [ih _ _ h, ← Array.foldl_toList]
        exact foldl_size _ _ _
theorem esem_buildSlice [Inhabited GlobS] {t : TypeId} {len : Nat} {parts : Array (Nat × Operand)} (h : de P s ρ (.buildSlice t len parts) K) : ESem P s (.buildSlice t len parts) ρ K := by
  simp only [de] at h
  split at h
  · rename_i e sz bytes z hel
    obtain ⟨hm, hle, h⟩ := cellsO_is h
    obtain ⟨i, zv, g1, g2, g3, g4, g5, g6, g7, g8, g9⟩ := elemI_some hel
    obtain ⟨cs, k1, k2⟩ := dfill_sound _ _ h
    rw [forceL_eq] at k1
    intro w0 F0 β w a hs hρ
    have hz := zeros_flat zv.cells len sz g8 g9
    have hpz : Pw w (Fr w0 F0 s β) β (List.replicate len z).flatten ((Array.range (len * sz)).map fun i => zv.cells[i % sz]!).toList := by
      rw [hz, g6]
      refine ⟨by simp [List.length_flatten], fun i d y h1 h2 => ?_⟩
      have hmem : y ∈ (List.replicate len zv.cells.toList).flatten := List.mem_of_getElem? h2
      have e1 : (List.replicate len (zv.cells.toList.map DV.v)).flatten = ((List.replicate len zv.cells.toList).flatten).map .v := by
        rw [List.map_flatten, List.map_replicate]
      rw [e1, List.getElem?_map, h2] at h1
      simp only [Option.map_some, Option.some.injEq] at h1
      subst h1
      obtain ⟨l, hl1, hl2⟩ := List.mem_flatten.1 hmem
      rw [List.mem_replicate] at hl1
      rw [hl1.2] at hl2
      exact .data (.v _ (List.all_eq_true.1 g7 y hl2))
    obtain ⟨ys, q1, q2⟩ := k2 rfl _ _ _ a.eval hρ _ hpz
    have hys : ys.length = len * sz := by
      have h1 := q1.1
      have h2 := hpz.1
      have h3 : cs.length = (List.replicate len z).flatten.length := by
        have h4 := fill_size _ _ _ _ q2
        simp only [List.size_toArray] at h4
        omega
      rw [hz] at h2
      simp [List.length_flatten, g8] at h2 h3
      omega
    obtain ⟨β', hb, g1', g2', gn⟩ := hs.newOb ⟨e, sz, cs⟩ hm ys.toArray len (by simpa using hys) (by simp only [maxLen]; have : len ≤ len * sz := Nat.le_mul_of_pos_right _ g9; omega) (by simp [q1.1]) (pw_cur (by simpa using q1))
    refine ⟨_, .slice (some ⟨w.heap.size, 0, none⟩) len len, _, _, _, β', .inl rfl, fun o ho => ?_, k1, g1', g2' _, by simp [Dl.newOb], .arr _ _ _ _ hb (Nat.le_refl _), .alloc _ _, gn _⟩
    have e2 : (parts.map fun x => (x.1, a.eval x.2)).toList = parts.toList.map fun x => (x.1, a.eval x.2) := by simp
    rw [Array.toArray_toList] at q2
    simp only [execOp, ho, Instr.buildSlice, Sem.run_bind, run_underlying g1, Result.andThen_ok, run_sizeOf g2, g3]
    rw [if_neg (by omega)]
    by_cases h0 : len * sz = 0
    · rw [if_pos h0]
      simp only [h0, Array.range_zero', Array.map_empty] at q2 ⊢
      simp only [Sem.run_bind, Sem.run_pure, Result.andThen_ok]
      rw [e2, q2]
      simp [newRow]
    · rw [if_neg h0]
      simp only [Sem.run_bind, Sem.run_pure, Result.andThen_ok, zeroValue, typeInfo, run_program, g2, g5]
      rw [e2, g8, q2]
      simp [newRow]
  · exact h.elim
end
end Go.Dl


