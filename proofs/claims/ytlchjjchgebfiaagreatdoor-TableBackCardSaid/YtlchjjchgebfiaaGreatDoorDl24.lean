/-
  The data-level logic, part 24: maps that stay as they are, looked up; a row sorted in place.
-/
import Derived.Test.YtlchjjchgebfiaaGreatDoorDl23
import Derived.Sort.Grow
import Derived.Shelf.GgSortFunc.InsertionK
namespace Go.Dl
open Go Go.RowKit

theorem rv_mp {w : World} {F : Nat → Prop} {β : Beta} {es : Array MapEntry} {x : Value} (h : RV w F β (.mp es) x) : ∃ b clk, x = .map (some b) ∧ w.heap[b]? = some (.map es clk) ∧ F b := by
  cases h with
  | data h => cases h
  | mp _ b clk h hF => exact ⟨b, clk, rfl, h, hF⟩

/-- A look into such a map. -/
theorem qsem_lookup {P : Program} {s : Sto} {t : TypeId} {m k : Operand} {c : Bool} {ρ : Operand → DV} {es : Array MapEntry} {kv r : Value} {d : DV} (hm : ρ m = .mp es) (hk : ρ k = .v kv)
    (h : ∀ (b clk : Nat) (w : World), w.heap[b]? = some (.map es clk) → (Instr.lookup t (.map (some b)) kv c).run P w = .ok r w) (hr : ∀ (w : World) (F : Nat → Prop) (β : Beta), RV w F β d r) : QSem P s (.lookup t m k c) ρ d := by
  intro w0 F0 β w a hobs hx
  have h1 := hx m
  rw [hm] at h1
  obtain ⟨b, clk, e1, h2, h3⟩ := rv_mp h1
  have h4 := hx k
  rw [hk] at h4
  have e2 := rv_v h4
  refine ⟨r, hr _ _ _, fun o w' ho hkp => ?_⟩
  have := hkp b (Array.getElem?_eq_some_iff.1 h2).1 (.inl h3)
  have h5 := h b clk w' (this.trans h2)
  simp only [execOp, ho, e1, e2, Sem.run_bind, h5]
  rfl
theorem dq_lookup {P : Program} {s : Sto} {t : TypeId} {m k : Operand} {c : Bool} {ρ : Operand → DV} {es : Array MapEntry} {kv : Value} {d : DV} {g : Bool} {K : DV → Prop} (r : Value) (hm : ρ m = .mp es) (hk : ρ k = .v kv)
    (h : ∀ (b clk : Nat) (w : World), w.heap[b]? = some (.map es clk) → (Instr.lookup t (.map (some b)) kv c).run P w = .ok r w) (hr : ∀ (w : World) (F : Nat → Prop) (β : Beta), RV w F β d r) (hK : K d) : ∃ d, (g = true → QSem P s (.lookup t m k c) ρ d) ∧ K d :=
  ⟨d, fun _ => qsem_lookup hm hk h hr, hK⟩

/-- A call of the kit's, met: of values that are as they are. -/
theorem DPure.kit [Inhabited GlobS] {P : Program} {f : FuncId} {args : List Value} {r : DV} (h : ∀ w : World, Gok w → Calls P f args.toArray w fun e w' => ∃ v, e = .returned v ∧ RowKit.Below w.heap.size w w' ∧ ∀ F : Nat → Prop, (∀ b, w.heap.size ≤ b → F b) → RV w' F (fun _ => none) r v)  (hdr : Drs = false := by rfl) :
    DPure P f (args.map .v) r := fun w F vals hg hF hx => by
  have e : vals = args := by
    apply List.ext_getElem?
    intro i
    have hl : args.length = vals.length := by simpa using hx.1
    by_cases hi : i < args.length
    · have h1 : (args.map DV.v)[i]? = some (.v args[i]) := by simp [hi]
      rw [List.getElem?_eq_getElem hi, List.getElem?_eq_getElem (by omega), rv_v (hx.2 i _ _ h1 (List.getElem?_eq_getElem (by omega)))]
    · rw [List.getElem?_eq_none (by omega), List.getElem?_eq_none (by omega)]
  subst e
  refine (h w hg).mono fun e w' ⟨v, he, hb, hr⟩ => ?_
  obtain ⟨k1, _⟩ := (SRel.empty w F hg hF).below' (.of hb fun e => by rw [hdr] at e; cases e)
  refine ⟨v, r, _, _, he, rfl, k1, (hr F hF).mono (fun _ _ h => h) fun b hb hFb => ⟨⟨hFb, ?_⟩, rfl⟩⟩
  rcases Nat.lt_or_ge b w.heap.size with hlt | hge
  · exact .inl hlt
  · exact .inr ⟨hge, fun i c hi => by cases hi⟩

/-! ### A row sorted in place -/
def rowD {α : Type} (enc : α → List Value) (l : List α) : List DV := (l.map fun x => (enc x).map DV.v).flatten

theorem rowD_len {α : Type} (enc : α → List Value) {k : Nat} (hk : ∀ x, (enc x).length = k) (l : List α) : (rowD enc l).length = l.length * k := by
  induction l with
  | nil => simp [rowD]
  | cons x l ih => simp only [rowD, List.map_cons, List.flatten_cons, List.length_append, List.length_map, List.length_cons] at *; rw [ih, hk, Nat.succ_mul]; omega
theorem rowD_get {α : Type} [Inhabited α] (enc : α → List Value) {k : Nat} (hk : ∀ x, (enc x).length = k) (l : List α) (t : Nat) (ht : t < l.length * k) : (rowD enc l)[t]? = some (.v ((Sort.flatK enc k l.toArray)[t]!)) := by
  rw [Sort.get_flatK _ _ _ _ (by simpa using ht)]
  have k0 : 0 < k := by rcases Nat.eq_zero_or_pos k with h | h; · subst h; simp at ht
                        · exact h
  induction l generalizing t with
  | nil => simp at ht
  | cons x l ih =>
    simp only [rowD, List.map_cons, List.flatten_cons]
    rcases Nat.lt_or_ge t k with h | h
    · rw [List.getElem?_append_left (by simp [hk, h]), Nat.div_eq_of_lt h, Nat.mod_eq_of_lt h]
      have : t < (enc x).length := by rw [hk]; exact h
      simp [this]
    · rw [List.getElem?_append_right (by simp [hk, h])]
      have h1 : t - ((enc x).map DV.v).length = t - k := by simp [hk]
      rw [h1]
      have := ih (t - k) (by simp [Nat.succ_mul] at ht; omega)
      simp only [rowD] at this
      rw [this]
      have h2 : t / k = (t - k) / k + 1 := by rw [← Nat.add_div_right _ k0, Nat.sub_add_cancel h]
      have h3 : t % k = (t - k) % k := by rw [Nat.mod_eq_sub_mod h]
      rw [h2, h3]
      simp

theorem SCall.sortedG [Inhabited GlobS] {α : Type} [Inhabited α] {P : Program} {f g : FuncId} {enc : α → List Value} {k : Nat} (hk : ∀ x, (enc x).length = k) (h0 : 0 < k) (h1 : ∀ x, ∀ v ∈ enc x, v.oneCell' = true) {s : Sto} {id len : Nat} {o : DObj} {l l' : List α} {K : DV → Sto → Prop}
    (hob : s.ob id = some o) (_hsz : o.sz = k) (hc : o.cells = rowD enc l) (_hn : len = l.length) (hne : l ≠ []) (hl : l'.length = l.length)
    (hcon : ∀ (blk cap : Nat) (w : World), Sort.HoldsK enc k w blk 0 l.toArray → blk < w.heap.size → (∀ W, BelowD blk w W → Gok W) → Calls P f #[.slice (some ⟨blk, 0, none⟩) len cap, .func (.func g) #[] #[]] w fun e w' => e = .returned (.tuple #[]) ∧ ∃ n os, w' = Go.Proofs.sortWorldK enc k w blk 0 n l'.toArray os)
    (hK : K (.tup []) ⟨upd s.ob id (some { o with cells := rowD enc l' }), s.nx⟩) : SCall P f [.arr id len, .clo (.func g) [] []] s K := by
  intro w0 F0 β w vals hs hx
  obtain ⟨hl2, hx⟩ := hx
  match vals, hl2 with
  | [x, y], _ =>
  have hx0 := hx 0 _ _ rfl rfl
  have hx1 := hx 1 _ _ rfl rfl
  obtain ⟨xs, ys, rfl, hl3, hl4, _⟩ := rv_clo hx1
  have e1 : xs = [] := List.length_eq_zero_iff.1 hl3.symm
  have e2 : ys = [] := List.length_eq_zero_iff.1 hl4.symm
  subst e1 e2
  have hpos : 0 < l.length := List.length_pos_iff.2 hne
  have hcl : o.cells.length = l.length * k := by rw [hc, rowD_len enc hk]
  have hpk : 0 < l.length * k := Nat.mul_pos hpos h0
  rcases rv_arr hx0 with ⟨b, c, hb, hle, rfl⟩ | ⟨hb, hz, rfl⟩
  · rcases hs.obs id o hob with g0 | ⟨b', c', cur, g1, g2, g3, g4, g5, g6, g7⟩
    · rw [g0.1] at hb; cases hb
    rw [g1] at hb
    simp only [Option.some.injEq, Prod.mk.injEq] at hb
    obtain ⟨rfl, rfl⟩ := hb
    have hblt := (Array.getElem?_eq_some_iff.1 g3).1
    have hold : Sort.HoldsK enc k w b' 0 l.toArray := fun j hj => by
      have hj : j < l.length * k := by simpa using hj
      have h2 := rowD_get enc hk l j hj
      rw [← hc] at h2
      obtain ⟨x, hx1, hx2⟩ := g7 j _ h2
      have := rv_v hx2
      subst this
      refine ⟨?_, ?_⟩
      · simp [World.cell?, g3, hx1]
      · simp [World.frozen?, g3]
    refine (hcon b' c' w hold hblt fun W hW => Gok.mono (hs.below.trans (hW.mono g2)) hs.gl).mono fun e w' ⟨he, n, os, hw⟩ => ?_
    generalize hw1 : Sort.putRowK enc k (Sort.ahead w n) b' 0 l'.toArray = w1 at hw
    have hfl : (Sort.flatK enc k l'.toArray).size = l.length * k := by simp [hl]
    have hp1 : w1.heap = w.heap.modify b' (Sort.onCells (Sort.putCells (fun v : Value => v) 0 (Sort.flatK enc k l'.toArray))) := by rw [← hw1]; rfl
    have hoth : ∀ i, i ≠ b' → w1.heap[i]? = w.heap[i]? := fun i hi => by rw [hp1, Array.getElem?_modify, if_neg (fun e => hi e.symm)]
    have hnew : w1.heap[b']? = some (.cells (Sort.putCells (fun v : Value => v) 0 (Sort.flatK enc k l'.toArray) cur) o.elem (0, 0)) := by rw [hp1, Array.getElem?_modify, if_pos rfl, g3]; rfl
    have hbel : BelowD b' w w1 := by
      refine ⟨by rw [← hw1]; rfl, by rw [← hw1]; rfl, by rw [← hw1]; rfl, by rw [hp1]; simp, fun i hi => hoth i (by omega), fun _ => by rw [← hw1]; exact Nat.le_add_right _ _⟩
    have hcs : (Sort.putCells (fun v : Value => v) 0 (Sort.flatK enc k l'.toArray) cur).size = cur.size := by simp [Sort.putCells]
    have hrl : (rowD enc l').length = l.length * k := by rw [rowD_len enc hk, hl]
    obtain ⟨k1, k2⟩ := hs.rewrite id o hob b' c' g1 w1 _ (rowD enc l') hbel hoth hnew (by rw [hcs]; exact g4) (by rw [hcs, hrl, ← hcl]; exact g6) (fun j d hj => by
      have hjl : j < l.length * k := by rw [← hrl]; exact (List.getElem?_eq_some_iff.1 hj).1
      have h2 := rowD_get enc hk l' j (by rw [hl]; exact hjl)
      rw [h2] at hj
      cases hj
      refine ⟨_, ?_, .data (.v _ ?_)⟩
      · have : j < cur.size := by rw [hcl] at g6; omega
        simp only [Sort.putCells, Array.getElem?_mapIdx, Array.getElem?_eq_getElem this, Option.map_some]
        rw [if_pos ⟨Nat.zero_le _, by omega⟩]
        rfl
      · rw [Sort.get_flatK _ _ _ _ (by simpa [hl] using hjl)]
        refine h1 (l'.toArray[j / k]!) _ ?_
        have hm : j % k < (enc l'.toArray[j / k]!).length := by rw [hk]; exact Nat.mod_lt _ h0
        rw [getElem!_pos (enc l'.toArray[j / k]!) (j % k) hm]
        exact List.getElem_mem hm)
    have hw' : w' = Sort.grow w1 os := by rw [hw, ← hw1]; rfl
    have hb2 : BelowD w1.heap.size w1 w' := by
      rw [hw']
      refine ⟨rfl, rfl, rfl, by simp [Sort.grow], fun i hi => ?_, fun _ => Nat.le_refl _⟩
      simp [Sort.grow, Array.getElem?_append, hi]
    obtain ⟨k3, k4⟩ := k1.below' hb2
    exact ⟨_, _, _, β, he, hK, k3, (k2 _).trans (k4 _), Nat.le_refl _, .tup [] [] rfl (fun i d x h => by simp at h)⟩
  · rcases hs.obs id o hob with g0 | ⟨b', c', cur, g1, _⟩
    · rw [g0.2] at hcl; simp at hcl; omega
    · rw [g1] at hb; cases hb
theorem SCall.sorted [Inhabited GlobS] {α : Type} [Inhabited α] {P : Program} {f g : FuncId} {enc : α → List Value} {k : Nat} (hk : ∀ x, (enc x).length = k) (h0 : 0 < k) (h1 : ∀ x, ∀ v ∈ enc x, v.oneCell' = true) {s : Sto} {id len : Nat} {o : DObj} {l l' : List α} {K : DV → Sto → Prop}
    (hob : s.ob id = some o) (hsz : o.sz = k) (hc : o.cells = rowD enc l) (hn : len = l.length) (hne : l ≠ []) (hl : l'.length = l.length)
    (hcon : ∀ (blk cap : Nat) (w : World), Sort.HoldsK enc k w blk 0 l.toArray → blk < w.heap.size → Calls P f #[.slice (some ⟨blk, 0, none⟩) len cap, .func (.func g) #[] #[]] w fun e w' => e = .returned (.tuple #[]) ∧ ∃ n os, w' = Go.Proofs.sortWorldK enc k w blk 0 n l'.toArray os)
    (hK : K (.tup []) ⟨upd s.ob id (some { o with cells := rowD enc l' }), s.nx⟩) : SCall P f [.arr id len, .clo (.func g) [] []] s K := 
  SCall.sortedG hk h0 h1 hob hsz hc hn hne hl (fun blk cap w h2 h3 _ => hcon blk cap w h2 h3) hK
theorem DFun.mono [Inhabited GlobS] {P : Program} {f : FuncId} {args : List DV} {Q Q' : DV → Sto → Prop} (h : DFun P f args Q) (hq : ∀ r s, Q r s → Q' r s) : DFun P f args Q' := fun w F vals hg hF hx =>
  (Calls.mono (h w F vals hg hF hx) fun _ _ ⟨v, r, s', β', he, h1, h2, h3⟩ => ⟨v, r, s', β', he, hq _ _ h1, h2, h3⟩)

/-! ### A call's new row, taken over -/
def scalV : DV → Bool
  | .v x => x.oneCell'
  | _ => false
theorem SRel.adopt [Inhabited GlobS] {w0 : World} {F0 : Nat → Prop} {s : Sto} {β : Beta} {w w' : World} (h : SRel w0 F0 s β w) (hb : BelowD w.heap.size w w') (o : DObj) (cur : Array Value) (b c : Nat) (hbw : w.heap.size ≤ b) (hblk : w'.heap[b]? = some (.cells cur o.elem (0, 0)))
    (hcs : cur.size = c * o.sz) (hcm : c ≤ maxLen) (hlen : o.cells.length ≤ cur.size) (hcur : ∀ (j : Nat) d, o.cells[j]? = some d → ∃ x, cur[j]? = some x ∧ d = .v x ∧ x.oneCell' = true) :
    SRel w0 F0 (Go.Dl.newOb s o) (upd β s.nx (some (some (b, c)))) w' ∧ ∀ n, Ext n w0 nX s β w (Go.Dl.newOb s o) (upd β s.nx (some (some (b, c)))) w' := by
  obtain ⟨hid, hob⟩ := h.fresh
  have hgrow : ∀ i p, β i = some p → upd β s.nx (some (some (b, c))) i = some p := fun i p hp => by
    by_cases e : i = s.nx
    · subst e; rw [hid] at hp; cases hp
    · rw [upd_ne _ _ _ e]; exact hp
  have hext : ∀ n, Ext n w0 nX s β w (Go.Dl.newOb s o) (upd β s.nx (some (some (b, c)))) w' := fun n =>
    ⟨fun i _ p hp => hgrow i p hp, hb.size, fun b1 hb1 _ hF => by
      refine ⟨?_, hb.block b1 hb1⟩
      rcases hF with hF | ⟨h1, h2⟩
      · exact .inl hF
      · refine .inr ⟨h1, fun i c' hi => ?_⟩
        by_cases e : i = s.nx
        · subst e; simp; intro e; omega
        · simp only [Dl.newOb, upd_ne _ _ _ e] at hi ⊢; exact h2 i c' hi⟩
  have hlt : ∀ i b1 c1, (s.ob i).isSome = true → β i = some (some (b1, c1)) → b1 < w.heap.size := fun i b1 c1 hi hb1 => by
    obtain ⟨oi, hoi⟩ := Option.isSome_iff_exists.1 hi
    rcases h.obs i oi hoi with h1 | ⟨b', c'', cur', h1, h2, h3, _⟩
    · rw [h1.1] at hb1; cases hb1
    · rw [h1] at hb1; simp only [Option.some.injEq, Prod.mk.injEq] at hb1
      rw [← hb1.1]; exact (Array.getElem?_eq_some_iff.1 h3).1
  refine ⟨⟨h.below.trans (hb.mono h.below.size), fun i oi hi => ?_, fun i j b1 c1 c2 hi hj hbi hbj => ?_, fun i hi => ?_, fun b1 hb1 => h.up b1 (Nat.le_trans hb.size hb1), fun i b1 c1 hi hb1 => ?_, h.gl⟩, hext⟩
  · by_cases e : i = s.nx
    · subst e
      simp only [Dl.newOb, upd_same, Option.some.injEq] at hi
      subst hi
      refine .inr ⟨b, c, cur, by simp, Nat.le_trans h.below.size hbw, hblk, hcs, hcm, hlen, fun j d hj => ?_⟩
      obtain ⟨x, hx, rfl, hone⟩ := hcur j d hj
      exact ⟨x, hx, .data (.v _ hone)⟩
    · simp only [Dl.newOb, upd_ne _ _ _ e] at hi
      rcases h.obs i oi hi with h1 | ⟨b1, c1, cur', h1, h2, h3, h4, h5, h6, h7⟩
      · exact .inl ⟨hgrow _ _ h1.1, h1.2⟩
      · refine .inr ⟨b1, c1, cur', hgrow _ _ h1, h2, ?_, h4, h5, h6, fun j d hj => ?_⟩
        · rw [hb.block b1 (Array.getElem?_eq_some_iff.1 h3).1]; exact h3
        · obtain ⟨x, hx, hr⟩ := h7 j d hj
          exact ⟨x, hx, RV.ext h (Nat.le_refl _) (hext _) hr⟩
  · by_cases e : i = s.nx
    · by_cases e' : j = s.nx
      · rw [e, e']
      · subst e
        simp only [Dl.newOb, upd_same, upd_ne _ _ _ e', Option.some.injEq, Prod.mk.injEq] at hi hj hbi hbj
        have := hlt j b1 c2 hj hbj
        omega
    · by_cases e' : j = s.nx
      · subst e'
        simp only [Dl.newOb, upd_same, upd_ne _ _ _ e, Option.some.injEq, Prod.mk.injEq] at hi hj hbi hbj
        have := hlt i b1 c1 hi hbi
        omega
      · simp only [Dl.newOb, upd_ne _ _ _ e, upd_ne _ _ _ e'] at hi hj hbi hbj
        exact h.inj i j b1 c1 c2 hi hj hbi hbj
  · have hi : s.nx + 1 ≤ i := hi
    have hne : i ≠ s.nx := by omega
    have := h.nx i (by omega)
    simp only [Dl.newOb, upd_ne _ _ _ hne]; exact this
  · by_cases e : i = s.nx
    · subst e
      simp only [upd_same, Option.some.injEq, Prod.mk.injEq] at hb1
      exact h.up b1 (by omega)
    · simp only [Dl.newOb, upd_ne _ _ _ e] at hi hb1
      exact h.own i b1 c1 hi hb1

/-- A call whose arguments are lent; its result is a new row of plain values: it's ours. -/
theorem SCall.fresh [Inhabited GlobS] {P : Program} {f : FuncId} {args args' : List DV} {s : Sto} {K : DV → Sto → Prop} {n : Nat} {o : DObj} (h : DFun P f args' fun r s' => r = .arr 0 n ∧ s' = .of [(0, o)] 1)
    (hd : DWl (fun i => some (i + s.nx)) s (fun _ => True) args args') (hsc : o.cells.all scalV = true) (hpos : 0 < o.cells.length) (hK : K (.arr s.nx n) (Go.Dl.newOb s o)) : SCall P f args s K :=
  fun w0 F0 β w vals hs hx => (h w (fun _ => True) vals hs.gok (fun _ _ => trivial) (lendW hs hd hx)).mono fun e w' ⟨v, r, s', β', he, ⟨hr, hs2⟩, hs', hv⟩ => by
    subst hr hs2
    rcases hs'.obs 0 o rfl with g | ⟨b, c, cur, g1, g2, g3, g4, g5, g6, g7⟩
    · rw [g.2] at hpos; exact absurd hpos (Nat.lt_irrefl _)
    have hcur : ∀ (j : Nat) d, o.cells[j]? = some d → ∃ x, cur[j]? = some x ∧ d = .v x ∧ x.oneCell' = true := fun j d hj => by
      obtain ⟨x, hx, hr⟩ := g7 j d hj
      have hdv := List.all_eq_true.1 hsc d (List.mem_of_getElem? hj)
      cases d with
      | v y =>
        have := rv_v hr
        subst this
        exact ⟨_, hx, rfl, hdv⟩
      | _ => cases hdv
    obtain ⟨k1, k2⟩ := hs.adopt hs'.below o cur b c g2 g3 g4 g5 g6 hcur
    refine ⟨v, _, _, _, he, hK, k1, k2 _, by simp [Dl.newOb], ?_⟩
    rcases rv_arr hv with ⟨b2, c2, q1, q2, rfl⟩ | ⟨q1, _, _⟩
    · rw [g1] at q1
      simp only [Option.some.injEq, Prod.mk.injEq] at q1
      obtain ⟨rfl, rfl⟩ := q1
      exact .arr _ _ _ _ (by simp) q2
    · rw [g1] at q1; cases q1
end Go.Dl
