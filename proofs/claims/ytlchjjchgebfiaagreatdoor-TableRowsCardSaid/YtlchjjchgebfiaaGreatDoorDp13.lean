/-
  The data-level logic, part 13: states told anew by lists; loops; results told anew.
-/
import Derived.Test.YtlchjjchgebfiaaGreatDoorDp12
import Derived.Deep.LoopGhost
import Derived.LoopNIn

namespace Go.Dl
open Go Go.RowKit
def Weak [Inhabited GlobS] (st st' : St) : Prop := ∀ (G : Org) (β : Beta) (a : Act) (w : World), Rel G st β a w → ∃ β', Rel G st' β' a w
theorem Weak.of [Inhabited GlobS] {st st' : St} {ρ : Nat → Option Nat} {pub : Nat → Prop} (hb : st'.base = st.base) (hn : st.base.n ≤ st'.s.nx) (hs : SW ρ st.s st'.s st.base.n pub)
    (ht : ∀ t, DW ρ st.s pub (st.tm t) (st'.tm t)) : Weak st st' := fun G β a w h => by
  obtain ⟨h1, h2, h3⟩ := hs.step h.srel
  exact ⟨_, h1, h.ext.trans (h2.mono h.bs).toX, by rw [hb]; exact h.bs, Nat.le_trans h.bs hn, fun t => h3 (ht t) (h.tm t), h.size, h.df.ext (fun _ h => h.elim) h2, by rw [hb]; exact G.hrx _ _ _ _ _ _ _ h.hs h2.keep, h.rd.ext (fun _ h => h.elim) h2⟩
noncomputable def allP {α : Type} (p : α → Prop) (l : List α) : Prop := List.rec True (fun x _ ih => p x ∧ ih) l
theorem allP_mem {α : Type} {p : α → Prop} : ∀ {l : List α}, allP p l → ∀ x ∈ l, p x := fun {l} => by
  induction l with
  | nil => intro _ x hx; cases hx
  | cons y l ih =>
    intro h x hx
    rcases List.mem_cons.1 hx with rfl | hx
    · exact h.1
    · exact ih h.2 x hx
def tmOf (l : List (Nat × DV)) : Nat → DV := fun t => (l.lookup t).getD .dead
def Sto.of (l : List (Nat × DObj)) (nx : Nat) : Sto := ⟨fun i => l.lookup i, nx⟩
def rho (rl : List (Nat × Option Nat)) (base snx : Nat) : Nat → Option Nat := fun i =>
  match rl.lookup i with
  | some x => x
  | none => if i < base then some i else some (i + snx)
theorem mem_of_lookup {α : Type} {l : List (Nat × α)} {i : Nat} {x : α} (h : l.lookup i = some x) : (i, x) ∈ l := by
  induction l with
  | nil => simp at h
  | cons p l ih =>
    obtain ⟨j, y⟩ := p
    rw [List.lookup_cons] at h
    cases hij : (i == j) with
    | true =>
      rw [hij] at h
      simp only [Option.some.injEq] at h
      rw [beq_iff_eq] at hij
      subst hij h
      exact List.mem_cons_self ..
    | false => rw [hij] at h; exact List.mem_cons_of_mem _ (ih h)
def OW (ρ : Nat → Option Nat) (s : Sto) (pub : Nat → Prop) (o o' : DObj) : Prop :=
  o.elem = o'.elem ∧ o.sz = o'.sz ∧ o'.cells.length ≤ o.cells.length ∧ DWl ρ s pub (o.cells.take o'.cells.length) o'.cells
theorem OW.cells {ρ : Nat → Option Nat} {s : Sto} {pub : Nat → Prop} {o o' : DObj} (h1 : o.elem = o'.elem) (h2 : o.sz = o'.sz) (h : DWl ρ s pub o.cells o'.cells) : OW ρ s pub o o' :=
  ⟨h1, h2, by rw [h.1]; exact Nat.le_refl _, by rw [← h.1, List.take_length]; exact h⟩
def chkS (rl : List (Nat × Option Nat)) (base snx nx' : Nat) (ids pubs : List Nat) : Bool :=
  decide (base ≤ nx') && rl.all (fun p => decide (base ≤ p.1) && decide (p.1 < nx')) && ids.all (fun i => decide (i < nx')) &&
  ids.all (fun i => ids.all fun j => decide (i = j) || (rho rl base snx i).isNone || rho rl base snx i != rho rl base snx j) &&
  ids.all (fun i => match rho rl base snx i with | some k => !pubs.contains k | none => true)
theorem SW.of {rl : List (Nat × Option Nat)} {pubs : List Nat} {base : Nat} {s : Sto} {l : List (Nat × DObj)} {nx' : Nat} (hc : chkS rl base s.nx nx' (l.map (·.1)) pubs = true)
    (ho : allP (fun p => match rho rl base s.nx p.1 with
      | some k => (match s.ob k with | some o => OW (rho rl base s.nx) s (· ∈ pubs) o p.2 | none => False)
      | none => p.2.cells = []) l) : SW (rho rl base s.nx) s (.of l nx') base (· ∈ pubs) := by
  simp only [chkS, Bool.and_eq_true, decide_eq_true_eq, List.all_eq_true, Bool.or_eq_true, bne_iff_ne, ne_eq] at hc
  obtain ⟨⟨⟨⟨c1, c2⟩, c3⟩, c4⟩, c5⟩ := hc
  have hid : ∀ i, ((Sto.of l nx').ob i).isSome = true → i ∈ l.map (·.1) := fun i hi => by
    obtain ⟨o, ho⟩ := Option.isSome_iff_exists.1 hi
    exact List.mem_map.2 ⟨_, mem_of_lookup ho, rfl⟩
  refine ⟨fun i o' hi => ?_, fun i j k hi hj h1 h2 => ?_, fun i hi => ?_, fun i k hi h1 => ?_, fun i k h1 h2 => ?_, fun i h1 => ?_⟩
  · refine ⟨c3 i (hid i (by rw [hi]; rfl)), ?_⟩
    have := allP_mem ho _ (mem_of_lookup hi)
    simp only at this
    split
    · rename_i k hk
      rw [hk] at this
      simp only at this
      split at this
      · rename_i o ho; exact ⟨o, ho, this⟩
      · exact this.elim
    · rename_i hk
      rw [hk] at this
      exact this
  · rcases c4 i (hid i hi) j (hid j hj) with (h | h) | h
    · exact h
    · rw [h1] at h; cases h
    · rw [h1, h2] at h; exact absurd rfl h
  · refine ⟨Nat.lt_of_lt_of_le hi c1, ?_⟩
    unfold rho
    split
    · rename_i x hx
      have := (c2 _ (mem_of_lookup hx)).1
      simp only at this
      omega
    · rw [if_pos hi]
  · have := c5 i (hid i hi)
    rw [h1] at this
    simpa using this
  · unfold rho at h1
    split at h1
    · rename_i x hx
      exact (c2 _ (mem_of_lookup hx)).2
    · split at h1
      · exact Nat.lt_of_lt_of_le (by assumption) c1
      · cases h1; omega
  · unfold rho at h1
    split at h1
    · rename_i x hx
      exact (c2 _ (mem_of_lookup hx)).2
    · split at h1 <;> cases h1
theorem Weak.list [Inhabited GlobS] {st : St} {tl : List (Nat × DV)} {l : List (Nat × DObj)} {nx' : Nat} (rl : List (Nat × Option Nat)) (pubs : List Nat) (hc : chkS rl st.base.n st.s.nx nx' (l.map (·.1)) pubs = true)
    (ht : allP (fun p => DW (rho rl st.base.n st.s.nx) st.s (· ∈ pubs) (st.tm p.1) p.2) tl)
    (ho : allP (fun p => match rho rl st.base.n st.s.nx p.1 with
      | some k => (match st.s.ob k with | some o => OW (rho rl st.base.n st.s.nx) st.s (· ∈ pubs) o p.2 | none => False)
      | none => p.2.cells = []) l) : Weak st ⟨st.base, tmOf tl, .of l nx'⟩ := by
  refine Weak.of rfl ?_ (SW.of hc ho) fun t => ?_
  · simp only [chkS, Bool.and_eq_true, decide_eq_true_eq] at hc
    exact hc.1.1.1.1
  · simp only [tmOf]
    cases h : tl.lookup t with
    | none => exact .dead _
    | some d => exact allP_mem ht _ (mem_of_lookup h)
def Round [Inhabited GlobS] {ι : Type} (stf : ι → St) (pre : ι → Prop) (μ : ι → Nat) (i : ι) (st : St) : Prop := ∃ j, pre j ∧ μ j < μ i ∧ Weak st (stf j)
theorem Round.go [Inhabited GlobS] {ι : Type} {stf : ι → St} {pre : ι → Prop} {μ : ι → Nat} {i : ι} {st : St} (j : ι → ι) (h1 : pre (j i)) (h2 : μ (j i) < μ i) (h3 : Weak st (stf (j i))) : Round stf pre μ i st := ⟨j i, h1, h2, h3⟩
theorem Tri.loop [Inhabited GlobS] {P : Program} {N : Nat} {Y : YT} {c : Code} {st : St} {Q : DExit → St → Prop} {ι : Type} (stf : ι → St) (pre : ι → Prop) (μ : ι → Nat) (i0 : ι) (hk : codeOk P N c = true) (h0 : Weak st (stf i0)) (hp : pre i0)
    (round : ∀ i, pre i → dcode P N Y c (stf i) (dthen (Round stf pre μ i) Q)) : Tri P N Y (.loop c) st Q := fun G hN hY β a w R hr hR => by
  refine wpIn_ghost (fun n a w => ∃ i β, pre i ∧ μ i = n ∧ Rel G (stf i) β a w) (μ i0) ?_ ?_
  · obtain ⟨β', hr'⟩ := h0 G β a w hr
    exact ⟨i0, β', hp, rfl, hr'⟩
  · intro n a w ⟨i, β, hpi, hn, hr⟩
    refine dcode_sound c hk (round i hpi) G hN hY β a w _ hr fun e st' β' a' w' hq hr' => ?_
    cases e with
    | normal =>
      obtain ⟨j, h1, h2, h3⟩ := hq
      obtain ⟨β'', hr''⟩ := h3 G β' a' w' hr'
      exact ⟨μ j, by omega, j, β'', h1, rfl, hr''⟩
    | exit id => exact hR (.exit id) _ _ _ _ hq hr'
    | goto l => exact hR (.goto l) _ _ _ _ hq hr'
    | ret => exact hR .ret _ _ _ _ hq hr'
noncomputable def drounds [Inhabited GlobS] (P : Program) (N : Nat) (Y : YT) (c : Code) (Q : DExit → St → Prop) (n : Nat) : St → Prop :=
  Nat.rec (motive := fun _ => St → Prop) (fun _ => False) (fun _ ih st => dcode P N Y c st (dthen ih Q)) n
theorem Tri.rounds [Inhabited GlobS] {P : Program} {N : Nat} {Y : YT} {c : Code} {st : St} {Q : DExit → St → Prop} (n : Nat) (hk : codeOk P N c = true) (h : drounds P N Y c Q n st) : Tri P N Y (.loop c) st Q := fun G hN hY β a w R hr hR => by
  refine wpIn_loop_rounds n ?_
  induction n generalizing st β a w with
  | zero => exact h.elim
  | succ n ih =>
    refine dcode_sound c hk h G hN hY β a w _ hr fun e st' β' a' w' hq hr' => ?_
    cases e with
    | normal => exact ih hq β' a' w' hr'
    | exit id => exact hR (.exit id) _ _ _ _ hq hr'
    | goto l => exact hR (.goto l) _ _ _ _ hq hr'
    | ret => exact hR .ret _ _ _ _ hq hr'
theorem DW.int {ρ : Nat → Option Nat} {s : Sto} {pub : Nat → Prop} {k : IntKind} {x y : Int} (h : x = y) : DW ρ s pub (.v (.int k x)) (.v (.int k y)) := by rw [h]; exact .same _ rfl
theorem DW.bool {ρ : Nat → Option Nat} {s : Sto} {pub : Nat → Prop} {x y : Bool} (h : x = y) : DW ρ s pub (.v (.bool x)) (.v (.bool y)) := by rw [h]; exact .same _ rfl
theorem DW.str {ρ : Nat → Option Nat} {s : Sto} {pub : Nat → Prop} {x y : ByteArray} (h : x = y) : DW ρ s pub (.v (.string x)) (.v (.string y)) := by rw [h]; exact .same _ rfl
theorem DW.lstE {ρ : Nat → Option Nat} {s : Sto} {pub : Nat → Prop} {sz : Nat} {x y : List (List DV)} (h : x = y) : DW ρ s pub (.lst sz x) (.lst sz y) := by rw [h]; exact .same _ rfl
def Tells (r0 : DV) (r : DV) (s : Sto) : Prop := DW (fun i => some (i + s.nx)) s (fun _ => True) r r0
theorem Tells.of {r0 r1 r : DV} {s : Sto} (e : r0 = r1) (h : Tells r1 r s) : Tells r0 r s := by rw [e]; exact h
theorem Tells.mk {r0 r : DV} {s : Sto} (h : DW (fun i => some (i + s.nx)) s (fun _ => True) r r0) : Tells r0 r s := h
theorem DFun.data [Inhabited GlobS] {P : Program} {f : FuncId} {args : List DV} {r0 : DV} (h : DFun P f args (Tells r0)) : DPure P f args r0 := fun w F vals hg hF hx =>
  (h w F vals hg hF hx).mono fun e w' ⟨v, r, s', β', he, hd, hs, hv⟩ => by
    have hsw : SW (fun i => some (i + s'.nx)) s' (.of [] 0) 0 (fun _ => True) :=
      ⟨fun i o h => by simp [Sto.of] at h, fun i j k h => by simp [Sto.of] at h, fun i hi => by omega, fun i k h => by simp [Sto.of] at h, fun i k h1 h2 => by cases h1; omega, fun i h => by cases h⟩
    obtain ⟨k1, k2, k3⟩ := hsw.step hs
    exact ⟨v, r0, _, _, he, rfl, k1, k3 hd hv⟩
end Go.Dl


