/-
  The data-level logic, part 19: what data of a shape look like.
-/
import Derived.Test.YtagfmppjlfhmeaaGreatDoorDp14
import Derived.RangeFuncNested

namespace Go.Dl
open Go Go.RowKit
section
variable {P : Program} {t : TypeId} {ds : List DV} {d : DV}
theorem Shp.bool_inv (hu : P.underlying t = some .bool) (h : Shp P t ds) : ∃ b, ds = [.v (.bool b)] := by
  cases h with
  | bool h b => exact ⟨b, rfl⟩
  | int h => rw [hu] at h; cases h
  | str h => rw [hu] at h; cases h
  | slice h => rw [hu] at h; cases h
  | struct h => rw [hu] at h; cases h
theorem Shp.str_inv (hu : P.underlying t = some .string) (h : Shp P t ds) : ∃ s, ds = [.v (.string s)] ∧ s.size ≤ reachBytes := by
  cases h with
  | bool h b => rw [hu] at h; cases h
  | int h => rw [hu] at h; cases h
  | str h s hs => exact ⟨s, rfl, hs⟩
  | slice h => rw [hu] at h; cases h
  | struct h => rw [hu] at h; cases h
theorem Shp.slice_inv {e : TypeId} {α : Type} {f : α → List DV} {p : α → Prop} (hu : P.underlying t = some (.slice e)) (hrow : ∀ r, Shp P e r → ∃ a, r = f a ∧ p a) (h : Shp P t ds) :
    ∃ l : List α, ds = [.lst (P.cellsOf e) (l.map f)] ∧ l.length * P.bytesOf e ≤ reachBytes ∧ ∀ a, a ∈ l → p a := by
  cases h with
  | bool h b => rw [hu] at h; cases h
  | int h => rw [hu] at h; cases h
  | str h => rw [hu] at h; cases h
  | slice h es hb hr =>
    rw [hu] at h; cases h
    have : ∃ l : List α, es = l.map f ∧ ∀ a, a ∈ l → p a := by
      clear hb
      induction es with
      | nil => exact ⟨[], rfl, fun a h => by cases h⟩
      | cons r es ih =>
        obtain ⟨l, h1, h2⟩ := ih fun r' h' => hr r' (List.mem_cons_of_mem _ h')
        obtain ⟨a, h3, h4⟩ := hrow r (hr r (List.mem_cons_self ..))
        refine ⟨a :: l, by rw [List.map_cons, ← h3, ← h1], fun b hb => ?_⟩
        rcases List.mem_cons.1 hb with rfl | hb
        · exact h4
        · exact h2 b hb
    obtain ⟨l, rfl, h2⟩ := this
    exact ⟨l, rfl, by simpa using hb, h2⟩
  | struct h => rw [hu] at h; cases h
def fldTab (P : Program) (t : TypeId) : Option (List (TypeId × Nat × Nat)) :=
  match P.underlying t with
  | some (.struct fs) => some (fs.toList.map fun f => (f.type, f.offset, P.cellsOf f.type))
  | _ => none
def parts (P : Program) (ds : List DV) : List (TypeId × Nat × Nat) → Prop
  | [] => True
  | p :: ps => Shp P p.1 ((ds.drop p.2.1).take p.2.2) ∧ parts P ds ps
theorem Shp.struct_inv {l : List (TypeId × Nat × Nat)} (hu : fldTab P t = some l) (h : Shp P t ds) : ds.length = P.cellsOf t ∧ parts P ds l := by
  unfold fldTab at hu
  split at hu
  · rename_i fs hfs
    cases hu
    cases h with
    | bool h b => rw [hfs] at h; cases h
    | int h => rw [hfs] at h; cases h
    | str h => rw [hfs] at h; cases h
    | slice h => rw [hfs] at h; cases h
    | struct h ds hl hf =>
      rw [hfs] at h; cases h
      refine ⟨hl, ?_⟩
      generalize fs.toList = fl at hf
      induction fl with
      | nil => trivial
      | cons f fl ih => exact ⟨hf f (List.mem_cons_self ..), ih fun f' h' => hf f' (List.mem_cons_of_mem _ h')⟩
  · cases hu
def isStructT (P : Program) (t : TypeId) : Bool := match P.underlying t with | some (.struct _) => true | _ => false
theorem ShpV.one (hs : isStructT P t = false) (h : ShpV P t d) : Shp P t [d] := by
  unfold ShpV at h
  unfold isStructT at hs
  split at h
  · rename_i fs hu; rw [hu] at hs; cases hs
  · exact h
theorem ShpV.slice_inv {e : TypeId} {α : Type} {f : α → List DV} {p : α → Prop} (hu : P.underlying t = some (.slice e)) (hrow : ∀ r, Shp P e r → ∃ a, r = f a ∧ p a) (h : ShpV P t d) :
    ∃ l : List α, d = .lst (P.cellsOf e) (l.map f) ∧ l.length * P.bytesOf e ≤ reachBytes ∧ ∀ a, a ∈ l → p a := by
  obtain ⟨l, h1, h2⟩ := Shp.slice_inv hu hrow (ShpV.one (by unfold isStructT; rw [hu]) h)
  cases h1; exact ⟨l, rfl, h2⟩
end
theorem shpAll_nil {P : Program} {l : List DV} (h : ShpAll P [] l) : l = [] := by
  cases l with
  | nil => rfl
  | cons d l => exact h.elim
theorem shpAll_cons {P : Program} {t : TypeId} {ts : List TypeId} {l : List DV} (h : ShpAll P (t :: ts) l) : ∃ d ds, l = d :: ds ∧ ShpV P t d ∧ ShpAll P ts ds := by
  cases l with
  | nil => exact h.elim
  | cons d l => exact ⟨d, l, rfl, h.1, h.2⟩
theorem SCall.mark [Inhabited GlobS] {P : Program} {f : FuncId} {args : List DV} {s : Sto} {K : DV → Sto → Prop} (h : SCall P f args s K) : SCall P f args s K := h
theorem PCall.mark [Inhabited GlobS] {P : Program} {f : FuncId} {args : List DV} {s : Sto} {g : Bool} {K : DV → Prop} (h : PCall P f args s g K) : PCall P f args s g K := h
theorem Tri.mark [Inhabited GlobS] {P : Program} {N : Nat} {Y : YT} {c : Code} {st : St} {Q : DExit → St → Prop} (h : Tri P N Y c st Q) : Tri P N Y c st Q := h
theorem Round.mark [Inhabited GlobS] {ι : Type} {stf : ι → St} {pre : ι → Prop} {μ : ι → Nat} {i : ι} {st : St} (h : Round stf pre μ i st) : Round stf pre μ i st := h
theorem ex_mark {p : DV → Prop} (h : ∃ d, p d) : ∃ d, p d := h
end Go.Dl

namespace Go.Dl
open Go Go.RowKit
theorem SRel.hide [Inhabited GlobS] {w0 : World} {F0 : Nat → Prop} {s : Sto} {β : Beta} {w : World} (h : SRel w0 F0 s β w) (T : List Nat) :
    SRel w0 F0 (s.hide T) β w ∧ ∀ n, Ext n w0 nX s β w (s.hide T) β w := by
  have hsome : ∀ i, ((s.hide T).ob i).isSome = true → (s.ob i).isSome = true := fun i hi => by
    obtain ⟨o, ho⟩ := Option.isSome_iff_exists.1 hi
    rw [(hide_ob ho).1]; rfl
  have hext : ∀ n, Ext n w0 nX s β w (s.hide T) β w := fun n =>
    ⟨fun _ _ _ hp => hp, Nat.le_refl _, fun b hb _ hF => ⟨by
      rcases hF with hF | hF
      · exact .inl hF
      · exact .inr ⟨hF.1, fun i c hi => hF.2 i c (hsome i hi)⟩, rfl⟩⟩
  refine ⟨⟨h.below, fun i oi hi => ?_, fun i j b c1 c2 hi hj => h.inj i j b c1 c2 (hsome i hi) (hsome j hj), fun i hi => ?_, h.up, fun i b c hi hb => h.own i b c (hsome i hi) hb, h.gl⟩, hext⟩
  · rcases h.obs i oi (hide_ob hi).1 with k1 | ⟨b2, c2, cur2, k1, k2, k3, k4, k5, k6, k7⟩
    · exact .inl k1
    · exact .inr ⟨b2, c2, cur2, k1, k2, k3, k4, k5, k6, fun j dj hj => by
        obtain ⟨y, hy, hr⟩ := k7 j dj hj
        exact ⟨y, hy, RV.ext h (Nat.le_refl _) (hext _) hr⟩⟩
  · have := h.nx i hi
    refine ⟨this.1, ?_⟩
    unfold Sto.hide
    simp only
    split
    · rfl
    · exact this.2
def Gv (s : Sto) (T : List Nat) : Nat → Prop := fun i => i ∈ T ∧ (s.ob i).isSome = true
theorem SCall.tell [Inhabited GlobS] {P : Program} {f : FuncId} {args args' : List DV} {s : Sto} {K : DV → Sto → Prop} {r : DV} (T : List Nat) (h : DPure P f args' r) (hd : DWl (fun i => some i) s (Gv s T) args args')
    (hargs : args'.all noIds = true) (hr : noIds r = true) (hK : K r (s.hide T)) : SCall P f args s K := fun w0 F0 β w vals hs hx => by
  obtain ⟨hs', hext⟩ := hs.hide T
  have hx' : Pw w (Fr w0 F0 (s.hide T) β) β args' vals := by
    refine ⟨by rw [← hd.1]; exact hx.1, fun i d' x h1 h2 => ?_⟩
    have hi : i < args.length := by rw [hd.1]; exact (List.getElem?_eq_some_iff.1 h1).1
    have h3 := List.getElem?_eq_getElem hi
    refine DW.rv hs (fun b hb hF => ((hext 0).fr' (fun _ _ h => h) b hb hF).1) (fun id b c hid hb => ?_) (fun i k p e hp => by cases e; exact hp) (fun i e => by cases e) (hd.2 i _ _ h3 h1) (hx.2 i _ _ h3 h2)
    obtain ⟨hid, hob⟩ := hid
    obtain ⟨o, ho⟩ := Option.isSome_iff_exists.1 hob
    have hge : w0.heap.size ≤ b := by
      rcases hs.obs id o ho with k1 | ⟨b2, c2, cur2, k1, k2, _⟩
      · rw [k1.1] at hb; cases hb
      · rw [k1] at hb; cases hb; exact k2
    refine ⟨hs.own id b c hob hb, .inr ⟨hge, fun i c' hi hb' => ?_⟩⟩
    obtain ⟨oi, hoi⟩ := Option.isSome_iff_exists.1 hi
    have e := hs.inj i id b c' c (by rw [(hide_ob hoi).1]; rfl) hob hb' hb
    have := (hide_ob hoi).2
    rw [e] at this
    simp at this
    exact this hid
  have := SCall.data (K := K) h hargs hr hK w0 F0 β w vals hs' hx'
  refine this.mono fun e w' ⟨v, r, s2, β2, he, hk, h1, h2, h3, h4⟩ => ⟨v, r, s2, β2, he, hk, h1, (hext _).trans h2, h3, h4⟩
theorem lendW [Inhabited GlobS] {w0 w : World} {F0 : Nat → Prop} {s : Sto} {β : Beta} (hs : SRel w0 F0 s β w) {args args' : List DV} {vals : List Value} (hd : DWl (fun i => some (i + s.nx)) s (fun _ => True) args args')
    (hx : Pw w (Fr w0 F0 s β) β args vals) : Pw w (fun _ => True) (fun _ => none) args' vals := by
  refine ⟨by rw [← hd.1]; exact hx.1, fun i d' x h1 h2 => ?_⟩
  have hi : i < args.length := by rw [hd.1]; exact (List.getElem?_eq_some_iff.1 h1).1
  have h3 := List.getElem?_eq_getElem hi
  exact DW.rv hs (fun _ _ _ => trivial) (fun _ _ _ _ _ => trivial) (fun i k p e hp => by cases e; rw [(hs.nx _ (by omega)).1] at hp; cases hp) (fun i e => by cases e) (hd.2 i _ _ h3 h1) (hx.2 i _ _ h3 h2)
theorem pcallW [Inhabited GlobS] {P : Program} {f : FuncId} {args args' : List DV} {s : Sto} {r : DV} (hr : Dl.scal r = true) (hd : DWl (fun i => some (i + s.nx)) s (fun _ => True) args args') (h : DPure P f args' r) : PSem P f args s r :=
  fun w0 F0 β w vals hs hx => (h w (fun _ => True) vals hs.gok (fun _ _ => trivial) (lendW hs hd hx)).mono fun e w' ⟨v, r', s', β', he, hq, h1, h2⟩ => by
    subst hq
    have := rv_scal h2 hr
    subst this
    exact ⟨he, h1.below⟩
theorem SCall.scalT [Inhabited GlobS] {P : Program} {f : FuncId} {args args' : List DV} {s : Sto} {K : DV → Sto → Prop} {r : DV} (h : DPure P f args' r) (hd : DWl (fun i => some (i + s.nx)) s (fun _ => True) args args') (hr : Dl.scal r = true) (hK : K r s) : SCall P f args s K :=
  fun w0 F0 β w vals hs hx => (pcallW hr hd h _ _ _ _ _ hs hx).mono fun e w' ⟨he, hb⟩ => by
    obtain ⟨h1, h2⟩ := hs.below' hb
    exact ⟨_, r, s, β, he, hK, h1, h2 _, Nat.le_refl _, rv_svalOf hr⟩
theorem PCall.tell [Inhabited GlobS] {P : Program} {f : FuncId} {args args' : List DV} {s : Sto} {g : Bool} {K : DV → Prop} {r : DV} (h : g = true → DPure P f args' r) (hd : g = true → DWl (fun i => some (i + s.nx)) s (fun _ => True) args args') (hr : Dl.scal r = true) (hK : K r) : PCall P f args s g K :=
  ⟨r, fun hg => ⟨hr, pcallW hr (hd hg) (h hg)⟩, hK⟩
section
variable {P : Program} {f : FuncId} {args args' : List DV} {s : Sto} {g : Bool} {Kd : DV → Prop} {Kt : DV → Sto → Prop} {Kf : Prop} {r : DV}
theorem GCall.data [Inhabited GlobS] (h : g = true → DPure P f args r) (hargs : args.all noIds = true) (hr : noIds r = true) (hK : Kd r) : GCall P f args s g Kd Kt Kf :=
  .inl ⟨r, fun hg => SCall.data (h hg) hargs hr ⟨rfl, rfl⟩, hK⟩
theorem GCall.scalT [Inhabited GlobS] (h : g = true → DPure P f args' r) (hd : g = true → DWl (fun i => some (i + s.nx)) s (fun _ => True) args args') (hr : Dl.scal r = true) (hK : Kd r) : GCall P f args s g Kd Kt Kf :=
  .inl ⟨r, fun hg => SCall.scalT (h hg) (hd hg) hr ⟨rfl, rfl⟩, hK⟩
theorem GCall.split [Inhabited GlobS] (h : g = true → SCall P f args s Kt) (h' : g = false → Kf) : GCall P f args s g Kd Kt Kf := .inr ⟨h, h'⟩
theorem GCall.none [Inhabited GlobS] (hg : g = false) (hK : Kd .dead) : GCall P f args s g Kd Kt Kf := .inl ⟨.dead, (fun h => by rw [hg] at h; cases h), hK⟩
theorem GCall.mark [Inhabited GlobS] (h : GCall P f args s g Kd Kt Kf) : GCall P f args s g Kd Kt Kf := h
end
theorem DW.pubM {α : Type} {f : α → List DV} {l : List α} {ρ : Nat → Option Nat} {s : Sto} {id sz n : Nat} {o : DObj} (hob : s.ob id = some o) (hn : l.length = n) (hsz : o.sz = sz) (hz : Nat.ble 1 sz = true) (hr : ∀ r ∈ l.map f, r.length = sz ∧ r.all isData1 = true)
    (hc : o.cells = (l.map f).flatten) : DW ρ s (fun _ => True) (.arr id n) (.lst sz (l.map f)) :=
  DW.pubE hob hsz (Nat.le_of_ble_eq_true hz) trivial (by simpa using hn) hr hc
theorem Tells.mark {r0 r : DV} {s : Sto} (h : Tells r0 r s) : Tells r0 r s := h
end Go.Dl
namespace Go.Dl
open Go Go.RowKit
def backR (ids : List Nat) (snx n1 : Nat) : Nat → Option Nat := fun i =>
  bif Nat.blt i snx then (match ids.idxOf? i with | some j => some j | none => some (i + n1)) else some (i - snx + ids.length)
def idRl (ids : List Nat) : List (Nat × Option Nat) := ids.zipIdx.map fun p => (p.2, some p.1)
def joinS (s : Sto) (ids : List Nat) (lm : List (Nat × DObj)) (nx : Nat) : Sto :=
  ⟨fun i => match lm.lookup i with | some o => some o | none => bif ids.contains i then none else s.ob i, nx⟩
theorem idRl_lookup (ids : List Nat) (j : Nat) (hj : j < ids.length) : (idRl ids).lookup j = some (some ids[j]) := by
  have key : ∀ (l : List Nat) (k j : Nat) (hj : j < l.length), ((l.zipIdx k).map fun p => (p.2, some p.1)).lookup (k + j) = some (some l[j]) := by
    intro l
    induction l with
    | nil => intro k j hj; cases hj
    | cons a l ih =>
      intro k j hj
      cases j with
      | zero => simp
      | succ j =>
        simp only [List.zipIdx_cons, List.map_cons, List.lookup_cons]
        have : ((k + (j + 1)) == k) = false := by simp
        rw [this]
        have := ih (k + 1) j (by simpa using hj)
        rw [show k + 1 + j = k + (j + 1) by omega] at this
        simpa using this
  have := key ids 0 j hj
  simpa [idRl] using this
theorem SCall.frame [Inhabited GlobS] {P : Program} {f : FuncId} {args : List DV} {s : Sto} {K : DV → Sto → Prop} (ids : List Nat) (lm : List (Nat × DObj)) (r : DV) (nx' : Nat) {l0 l1 : List (Nat × DObj)} {args0 : List DV} {r0 : DV} {n1 : Nat}
    (h : SCall P f args0 (.of l0 ids.length) fun r' s' => r' = r0 ∧ s' = .of l1 n1)
    (hc : (chkS (idRl ids) 0 s.nx ids.length (l0.map (·.1)) [] && (List.range ids.length).all (fun j => (l0.lookup j).isSome) && ids.all (fun k => decide (k < s.nx)) && decide (s.nx + (n1 - ids.length) ≤ nx') && lm.all (fun p => decide (p.1 < nx'))) = true)
    (ho : allP (fun p => match rho (idRl ids) 0 s.nx p.1 with
      | some k => (match s.ob k with | some o => OW (rho (idRl ids) 0 s.nx) s (· ∈ []) o p.2 | none => False)
      | none => p.2.cells = []) l0)
    (ha : DWl (rho (idRl ids) 0 s.nx) s (· ∈ []) args args0)
    (hr : DW (backR ids s.nx n1) (.of l1 n1) (fun _ => False) r0 r)
    (hm : allP (fun p => match backR ids s.nx n1 p.1 with
      | some k => (match (Sto.of l1 n1).ob k with | some o => OW (backR ids s.nx n1) (.of l1 n1) (fun _ => False) o p.2 | none => False)
      | none => False) lm)
    (hK : K r (joinS s ids lm nx')) : SCall P f args s K := by
  intro w0 F0 β w vals hs hx
  simp only [Bool.and_eq_true, List.all_eq_true, decide_eq_true_eq, List.mem_range] at hc
  obtain ⟨⟨⟨⟨hc1, hcov⟩, hids⟩, hnx'⟩, hlm⟩ := hc
  have hsw := SW.of hc1 ho
  -- the callee's blocks of data
  let F1 : Nat → Prop := fun b => F0 b ∧ ∀ i c, i ∉ ids → (s.ob i).isSome = true → β i ≠ some (some (b, c))
  have hρ : ∀ j (hj : j < ids.length), rho (idRl ids) 0 s.nx j = some ids[j] := fun j hj => by unfold rho; rw [idRl_lookup ids j hj]
  have hρ' : ∀ i k, ((Sto.of l0 ids.length).ob i).isSome = true → rho (idRl ids) 0 s.nx i = some k → k ∈ ids := fun i k hi hk => by
    obtain ⟨o, ho'⟩ := Option.isSome_iff_exists.1 hi
    have := (hsw.ob i o ho').1
    have hi' : i < ids.length := this
    rw [hρ i hi'] at hk
    cases hk
    exact List.getElem_mem _
  obtain ⟨g1, g2, g3⟩ := hsw.stepF F1 hs (fun b hF => ⟨hF.1, fun i c hi ho' hb => by
      rcases hF.2 with hlt | ⟨_, hno⟩
      · obtain ⟨o, ho''⟩ := Option.isSome_iff_exists.1 ho'
        rcases hs.obs i o ho'' with g | ⟨b', c', cur, e1, e2, _⟩
        · rw [g.1] at hb; cases hb
        · rw [e1] at hb; cases hb; omega
      · exact hno i c ho' hb⟩)
    (fun k b c hk hb hor => by
      rcases hor with hp | ⟨i, hi, hρi⟩
      · cases hp
      · refine ⟨hs.own k b c hk hb, fun i' c' hni hi' hb' => hni ?_⟩
        have e := hs.inj i' k b c' c hi' hk hb' hb
        rw [e]; exact hρ' i k hi hρi)
    (fun b hb => ⟨hs.up b hb, fun i c _ ho' hβ => (hs.frUp b hb).2.elim (fun hlt => by have := hs.below.size; omega) (fun hno => hno.2 i c ho' hβ)⟩)
  generalize hβ0 : reβ (rho (idRl ids) 0 s.nx) β (Sto.of l0 ids.length).nx = β0 at g1 g2 g3
  have hx0 : Pw w (Fr w0 F1 (.of l0 ids.length) β0) β0 args0 vals := by
    refine ⟨by rw [← ha.1]; exact hx.1, fun i d' x h1 h2 => ?_⟩
    have hi : i < args.length := by rw [ha.1]; exact (List.getElem?_eq_some_iff.1 h1).1
    exact g3 (ha.2 i _ _ (List.getElem?_eq_getElem hi) h1) (hx.2 i _ _ (List.getElem?_eq_getElem hi) h2)
  refine (h w0 F1 β0 w vals g1 hx0).mono fun e w' ⟨v, r', s', β', he, ⟨hq1, hq2⟩, k1, k2, k3, k4⟩ => ?_
  subst hq1 hq2
  have hn1 : ids.length ≤ n1 := k3
  let β2 : Beta := fun i => if i < s.nx then β i else β' (i - s.nx + ids.length)
  -- where the callee's own objects lay, they lie
  have hβ0j : ∀ j (hj : j < ids.length), β0 j = β ids[j] := fun j hj => by
    rw [← hβ0]
    simp only [reβ, Sto.of, if_pos hj, hρ j hj]
  have hβ'j : ∀ j (hj : j < ids.length), β' j = β ids[j] := fun j hj => by
    have hcv := hcov j hj
    obtain ⟨o, ho'⟩ := Option.isSome_iff_exists.1 hcv
    have hsm : ∃ p, β0 j = some p := by
      rcases g1.obs j o ho' with g | ⟨b, c, _, g, _⟩
      · exact ⟨_, g.1⟩
      · exact ⟨_, g⟩
    obtain ⟨p, hp⟩ := hsm
    rw [k2.grow j hj p hp, ← hβ0j j hj, hp]
  have factB : ∀ i k, backR ids s.nx n1 i = some k → ((Sto.of l1 n1).ob k).isSome = true → β2 i = β' k ∧ ((i < s.nx ∧ ∃ hk : k < ids.length, ids[k] = i) ∨ (s.nx ≤ i ∧ ids.length ≤ k ∧ i = k - ids.length + s.nx)) := fun i k hb hk => by
    unfold backR at hb
    cases hlt : Nat.blt i s.nx with
    | true =>
      have hlt' : i < s.nx := by simpa [Nat.blt_eq] using hlt
      simp only [hlt, cond_true] at hb
      split at hb
      · rename_i j hj
        cases hb
        have hj' := List.idxOf?_eq_some_iff.1 hj
        obtain ⟨h1, h2, _⟩ := hj'
        refine ⟨?_, .inl ⟨hlt', h1, by simpa using h2⟩⟩
        simp only [β2, if_pos hlt']
        rw [hβ'j k h1]
        congr 1
        simpa using h2.symm
      · cases hb
        obtain ⟨o, ho'⟩ := Option.isSome_iff_exists.1 hk
        have := (k1.nx (i + n1) (by show n1 ≤ i + n1; omega)).2
        rw [ho'] at this; cases this
    | false =>
      have hge : s.nx ≤ i := by
        rcases Nat.lt_or_ge i s.nx with h | h
        · rw [← Nat.blt_eq] at h; rw [h] at hlt; cases hlt
        · exact h
      simp only [hlt, cond_false, Option.some.injEq] at hb
      subst hb
      refine ⟨?_, .inr ⟨hge, by omega, by omega⟩⟩
      simp only [β2, if_neg (Nat.not_lt.2 hge)]
  have lmO : ∀ i o, lm.lookup i = some o → ∃ k ok, backR ids s.nx n1 i = some k ∧ (Sto.of l1 n1).ob k = some ok ∧ OW (backR ids s.nx n1) (.of l1 n1) (fun _ => False) ok o := fun i o hl => by
    have := allP_mem hm _ (mem_of_lookup hl)
    simp only at this
    split at this
    · rename_i k hk
      split at this
      · rename_i ok hok; exact ⟨k, ok, hk, hok, this⟩
      · exact this.elim
    · exact this.elim
  have jO : ∀ i o, (joinS s ids lm nx').ob i = some o → (lm.lookup i = some o) ∨ (lm.lookup i = none ∧ i ∉ ids ∧ s.ob i = some o) := fun i o hj => by
    unfold joinS at hj
    simp only at hj
    split at hj
    · rename_i o' ho'; cases hj; exact .inl ho'
    · rename_i hn
      cases hci : ids.contains i with
      | true => rw [hci] at hj; cases hj
      | false => rw [hci] at hj; exact .inr ⟨hn, by simpa using hci, hj⟩
  have oth : ∀ i o b c, i ∉ ids → s.ob i = some o → β i = some (some (b, c)) → b < w.heap.size ∧ w0.heap.size ≤ b ∧ Un w0 (.of l0 ids.length) β0 b := fun i o b c hi ho' hb => by
    rcases hs.obs i o ho' with g | ⟨b', c', cur, e1, e2, e3, _⟩
    · rw [g.1] at hb; cases hb
    rw [e1] at hb
    simp only [Option.some.injEq, Prod.mk.injEq] at hb
    obtain ⟨rfl, rfl⟩ := hb
    refine ⟨(Array.getElem?_eq_some_iff.1 e3).1, e2, .inr ⟨e2, fun j c2 hj hbj => ?_⟩⟩
    obtain ⟨oj, hoj⟩ := Option.isSome_iff_exists.1 hj
    have hjl : j < ids.length := (hsw.ob j oj hoj).1
    rw [hβ0j j hjl] at hbj
    have hobj : (s.ob ids[j]).isSome = true := by
      have := (hsw.ob j oj hoj).2
      rw [hρ j hjl] at this
      obtain ⟨o2, ho2, _⟩ := this
      rw [ho2]; rfl
    have e := hs.inj ids[j] i b' c2 c' hobj (by rw [ho']; rfl) hbj e1
    exact hi (by rw [← e]; exact List.getElem_mem _)
  have keep : ∀ i o b c, i ∉ ids → s.ob i = some o → β i = some (some (b, c)) → Un w0 (.of l1 n1) β' b ∧ w'.heap[b]? = w.heap[b]? := fun i o b c hi ho' hb => by
    obtain ⟨q1, _, q3⟩ := oth i o b c hi ho' hb
    exact k2.fr b q1 (fun h => h) q3
  have hlt_s : ∀ i o, s.ob i = some o → i < s.nx := fun i o ho' => by
    rcases Nat.lt_or_ge i s.nx with h | h
    · exact h
    · have := (hs.nx i h).2; rw [ho'] at this; cases this
  -- unowned by the callee's and by the others is unowned
  have hUU : ∀ b, Un w0 (.of l1 n1) β' b → (∀ i c, i ∉ ids → (s.ob i).isSome = true → β i ≠ some (some (b, c))) → Un w0 (joinS s ids lm nx') β2 b := fun b hU hno => by
    rcases hU with hlt | ⟨hge, hu⟩
    · exact .inl hlt
    · refine .inr ⟨hge, fun i c hi hb => ?_⟩
      obtain ⟨o, ho'⟩ := Option.isSome_iff_exists.1 hi
      rcases jO i o ho' with hl | ⟨_, hni, hso⟩
      · obtain ⟨k, ok, e1, e2, _⟩ := lmO i o hl
        have := (factB i k e1 (by rw [e2]; rfl)).1
        rw [this] at hb
        exact hu k c (by rw [e2]; rfl) hb
      · simp only [β2, if_pos (hlt_s i o hso)] at hb
        exact hno i c hni (by rw [hso]; rfl) hb
  have hFF : ∀ b, Fr w0 F1 (.of l1 n1) β' b → Fr w0 F0 (joinS s ids lm nx') β2 b := fun b hF => ⟨hF.1.1, hUU b hF.2 hF.1.2⟩
  have hSU : ∀ b, b < w.heap.size → Un w0 s β b → Un w0 (joinS s ids lm nx') β2 b ∧ w'.heap[b]? = w.heap[b]? := fun b hb hU => by
    have hU0 : Un w0 (.of l0 ids.length) β0 b := (g2.fr b hb (fun h => h) hU).1
    obtain ⟨q1, q2⟩ := k2.fr b hb (fun h => h) hU0
    refine ⟨hUU b q1 fun i c _ hi hbi => ?_, q2⟩
    rcases hU with hlt | ⟨_, hu⟩
    · obtain ⟨o, ho'⟩ := Option.isSome_iff_exists.1 hi
      rcases hs.obs i o ho' with g | ⟨b', c', cur, e1, e2, _⟩
      · rw [g.1] at hbi; cases hbi
      · rw [e1] at hbi; cases hbi; omega
    · exact hu i c hi hbi
  have hext : Ext s.nx w0 nX s β w (joinS s ids lm nx') β2 w' := ⟨fun i hi p hp => by simp only [β2, if_pos hi]; exact hp, k2.size, fun b hb _ hU => hSU b hb hU⟩
  have hrv : ∀ {d d' : DV} {x : Value}, DW (backR ids s.nx n1) (.of l1 n1) (fun _ => False) d d' → RV w' (Fr w0 F1 (.of l1 n1) β') β' d x → RV w' (Fr w0 F0 (joinS s ids lm nx') β2) β2 d' x := fun hd hv =>
    hd.rv k1 (fun b _ hF => hFF b hF) (fun _ _ _ h => h.elim) (fun i k p hb hp => by
      unfold backR at hb
      cases hlt : Nat.blt i s.nx with
      | true =>
        have hlt' : i < s.nx := by simpa [Nat.blt_eq] using hlt
        simp only [hlt, cond_true] at hb
        split at hb
        · rename_i j hj
          cases hb
          obtain ⟨h1, h2, _⟩ := List.idxOf?_eq_some_iff.1 hj
          simp only [β2, if_pos hlt']
          rw [hβ'j k h1] at hp
          have e : ids[k] = i := by simpa using h2
          rw [← e]; exact hp
        · cases hb
          rw [(k1.nx (i + n1) (by show n1 ≤ i + n1; omega)).1] at hp; cases hp
      | false =>
        have hge : ¬ i < s.nx := fun h => by rw [← Nat.blt_eq] at h; rw [h] at hlt; cases hlt
        simp only [hlt, cond_false, Option.some.injEq] at hb
        subst hb
        simp only [β2, if_neg hge]; exact hp)
      (fun i hb => by
        unfold backR at hb
        cases hlt : Nat.blt i s.nx with
        | true => simp only [hlt, cond_true] at hb; split at hb <;> cases hb
        | false => simp only [hlt, cond_false] at hb; cases hb) hv
  have hsnx : s.nx ≤ nx' := by omega
  refine ⟨v, r, joinS s ids lm nx', β2, he, hK, ⟨k1.below, fun i o hj => ?_, fun i j b c c' hi hj hbi hbj => ?_, fun i hi => ?_, fun b hb => (k1.up b hb).1, fun i b c hi hb => ?_, k1.gl⟩, hext, hsnx, hrv hr k4⟩
  · rcases jO i o hj with hl | ⟨_, hni, hso⟩
    · obtain ⟨k, ok, e1, e2, e3, e4, e5, e6⟩ := lmO i o hl
      have hb2 := (factB i k e1 (by rw [e2]; rfl)).1
      rcases k1.obs k ok e2 with g | ⟨b', c', cur, q1, q2, q3, q4, q5, q6, q7⟩
      · refine .inl ⟨by rw [hb2]; exact g.1, ?_⟩
        have := g.2
        rw [this] at e5
        exact List.length_eq_zero_iff.1 (by simpa using e5)
      · refine .inr ⟨b', c', cur, by rw [hb2]; exact q1, q2, by rw [← e3]; exact q3, by rw [← e4]; exact q4, q5, by omega, fun j d hjd => ?_⟩
        have hjl : j < o.cells.length := (List.getElem?_eq_some_iff.1 hjd).1
        have hjo : ok.cells[j]? = some (ok.cells[j]'(by omega)) := List.getElem?_eq_getElem _
        obtain ⟨x, hx', hr'⟩ := q7 j _ hjo
        refine ⟨x, hx', hrv (e6.2 j _ _ ?_ hjd) hr'⟩
        rw [List.getElem?_take, if_pos hjl]
        exact hjo
    · have hil := hlt_s i o hso
      rcases hs.obs i o hso with g | ⟨b', c', cur, q1, q2, q3, q4, q5, q6, q7⟩
      · exact .inl ⟨by simp only [β2, if_pos hil]; exact g.1, g.2⟩
      · refine .inr ⟨b', c', cur, by simp only [β2, if_pos hil]; exact q1, q2, by rw [(keep i o b' c' hni hso q1).2]; exact q3, q4, q5, q6, fun j d hjd => ?_⟩
        obtain ⟨x, hx', hr'⟩ := q7 j d hjd
        exact ⟨x, hx', RV.ext hs (Nat.le_refl _) hext hr'⟩
  · obtain ⟨oi, hoi⟩ := Option.isSome_iff_exists.1 hi
    obtain ⟨oj, hoj⟩ := Option.isSome_iff_exists.1 hj
    have cross : ∀ i o k ok b c c', i ∉ ids → s.ob i = some o → β i = some (some (b, c)) → (Sto.of l1 n1).ob k = some ok → β' k = some (some (b, c')) → False := fun i o k ok b c c' hni hso hb hk hbk => by
      have hU := (keep i o b c hni hso hb).1
      obtain ⟨_, q2, _⟩ := oth i o b c hni hso hb
      rcases hU with hlt | ⟨_, hu⟩
      · omega
      · exact hu k c' (by rw [hk]; rfl) hbk
    rcases jO i oi hoi with hl | ⟨_, hni, hso⟩
    · obtain ⟨k, ok, e1, e2, _⟩ := lmO i oi hl
      obtain ⟨fb, fi⟩ := factB i k e1 (by rw [e2]; rfl)
      rw [fb] at hbi
      rcases jO j oj hoj with hl' | ⟨_, hni', hso'⟩
      · obtain ⟨k', ok', e1', e2', _⟩ := lmO j oj hl'
        obtain ⟨fb', fi'⟩ := factB j k' e1' (by rw [e2']; rfl)
        rw [fb'] at hbj
        have e := k1.inj k k' b c c' (by rw [e2]; rfl) (by rw [e2']; rfl) hbi hbj
        subst e
        rcases fi with ⟨_, q1, q2⟩ | ⟨_, q1, q2⟩
        · rcases fi' with ⟨_, q1', q2'⟩ | ⟨_, q1', q2'⟩
          · rw [← q2, ← q2']
          · omega
        · rcases fi' with ⟨_, q1', q2'⟩ | ⟨_, q1', q2'⟩
          · omega
          · rw [q2, q2']
      · simp only [β2, if_pos (hlt_s j oj hso')] at hbj
        exact (cross j oj k ok b c' c hni' hso' hbj e2 hbi).elim
    · simp only [β2, if_pos (hlt_s i oi hso)] at hbi
      rcases jO j oj hoj with hl' | ⟨_, hni', hso'⟩
      · obtain ⟨k', ok', e1', e2', _⟩ := lmO j oj hl'
        obtain ⟨fb', _⟩ := factB j k' e1' (by rw [e2']; rfl)
        rw [fb'] at hbj
        exact (cross i oi k' ok' b c c' hni hso hbi e2' hbj).elim
      · simp only [β2, if_pos (hlt_s j oj hso')] at hbj
        exact hs.inj i j b c c' (by rw [hso]; rfl) (by rw [hso']; rfl) hbi hbj
  · have hi' : nx' ≤ i := hi
    have hge : ¬ i < s.nx := by omega
    refine ⟨?_, ?_⟩
    · simp only [β2, if_neg hge]
      exact (k1.nx _ (by show n1 ≤ i - s.nx + ids.length; omega)).1
    · cases hj : (joinS s ids lm nx').ob i with
      | none => rfl
      | some o =>
        rcases jO i o hj with hl | ⟨_, _, hso⟩
        · have := hlm _ (mem_of_lookup hl); simp only at this; omega
        · exact absurd (hlt_s i o hso) hge
  · obtain ⟨o, hj⟩ := Option.isSome_iff_exists.1 hi
    rcases jO i o hj with hl | ⟨_, hni, hso⟩
    · obtain ⟨k, ok, e1, e2, _⟩ := lmO i o hl
      rw [(factB i k e1 (by rw [e2]; rfl)).1] at hb
      exact (k1.own k b c (by rw [e2]; rfl) hb).1
    · simp only [β2, if_pos (hlt_s i o hso)] at hb
      exact hs.own i b c (by rw [hso]; rfl) hb
theorem SCall.at [Inhabited GlobS] {P : Program} {f : FuncId} {args : List DV} {s : Sto} {K : DV → Sto → Prop} (ids : List Nat) (lm : Nat → List (Nat × DObj)) (r : Nat → DV) (k : Nat) {l0 l1 : List (Nat × DObj)} {args0 : List DV} {r0 : DV} {n1 : Nat}
    (h : SCall P f args0 (.of l0 ids.length) fun r' s' => r' = r0 ∧ s' = .of l1 n1)
    (hc : (chkS (idRl ids) 0 s.nx ids.length (l0.map (·.1)) [] && (List.range ids.length).all (fun j => (l0.lookup j).isSome) && ids.all (fun k => decide (k < s.nx)) && decide (s.nx + (n1 - ids.length) ≤ s.nx + k) && (lm s.nx).all (fun p => decide (p.1 < s.nx + k))) = true)
    (ho : allP (fun p => match rho (idRl ids) 0 s.nx p.1 with
      | some k => (match s.ob k with | some o => OW (rho (idRl ids) 0 s.nx) s (· ∈ []) o p.2 | none => False)
      | none => p.2.cells = []) l0)
    (ha : DWl (rho (idRl ids) 0 s.nx) s (· ∈ []) args args0)
    (hr : DW (backR ids s.nx n1) (.of l1 n1) (fun _ => False) r0 (r s.nx))
    (hm : allP (fun p => match backR ids s.nx n1 p.1 with
      | some k => (match (Sto.of l1 n1).ob k with | some o => OW (backR ids s.nx n1) (.of l1 n1) (fun _ => False) o p.2 | none => False)
      | none => False) (lm s.nx))
    (hK : K (r s.nx) (joinS s ids (lm s.nx) (s.nx + k))) : SCall P f args s K := SCall.frame ids (lm s.nx) (r s.nx) (s.nx + k) h hc ho ha hr hm hK
end Go.Dl
namespace Go.Dl
open Go Go.RowKit
theorem Ext.within {n m : Nat} {w0 : World} {X X' : Nat → Prop} {s s1 s2 : Sto} {β β1 β2 : Beta} {w w1 w2 : World} (h : Ext n w0 X s β w s1 β1 w1) (k : Ext m w0 X' s1 β1 w1 s2 β2 w2) (hn : n ≤ m)
    (hx : ∀ b, b < w.heap.size → X' b → X b) : Ext n w0 X s β w s2 β2 w2 :=
  ⟨fun i hi p hp => k.grow i (by omega) p (h.grow i hi p hp), Nat.le_trans h.size k.size, fun b hb hxb hu => by
    obtain ⟨h1, h2⟩ := h.fr b hb hxb hu
    obtain ⟨h3, h4⟩ := k.fr b (Nat.lt_of_lt_of_le hb h.size) (fun h => hxb (hx b hb h)) h1
    exact ⟨h3, h4.trans h2⟩⟩
def But (F0 : Nat → Prop) (l : Nat) (b : Nat) : Prop := F0 b ∧ b ≠ l
theorem SRel.wide [Inhabited GlobS] {w0 : World} {F F' : Nat → Prop} {s : Sto} {β : Beta} {w : World} (h : SRel w0 F s β w) (hF : ∀ b, F b → F' b) : SRel w0 F' s β w :=
  ⟨h.below, fun i o ho => by
    rcases h.obs i o ho with k1 | ⟨b2, c2, cur2, k1, k2, k3, k4, k5, k6, k7⟩
    · exact .inl k1
    · exact .inr ⟨b2, c2, cur2, k1, k2, k3, k4, k5, k6, fun j dj hj => by
        obtain ⟨y, hy, hr⟩ := k7 j dj hj
        exact ⟨y, hy, hr.mono (fun _ _ h => h) fun b _ hb => ⟨⟨hF b hb.1, hb.2⟩, rfl⟩⟩⟩, h.inj, h.nx, fun b hb => hF b (h.up b hb), fun i b c h1 h2 => hF b (h.own i b c h1 h2), h.gl⟩
theorem RV.wide {w0 : World} {F F' : Nat → Prop} {s : Sto} {β : Beta} {w : World} (hF : ∀ b, F b → F' b) {d : DV} {x : Value} (h : RV w (Fr w0 F s β) β d x) : RV w (Fr w0 F' s β) β d x :=
  h.mono (fun _ _ h => h) fun b _ hb => ⟨⟨hF b hb.1, hb.2⟩, rfl⟩
theorem RV.but {w0 : World} {F0 : Nat → Prop} {s : Sto} {β : Beta} {w : World} {l : Nat} (hc : Ctl w l) {d : DV} {v : Value} (h : RV w (Fr w0 F0 s β) β d v) : RV w (Fr w0 (But F0 l) s β) β d v :=
  h.cells (fun _ _ h => h) fun b o hF ho => ⟨⟨⟨hF.1, fun e => by subst e; exact hc.unseen ho⟩, hF.2⟩, rfl⟩
theorem SRel.but [Inhabited GlobS] {w0 : World} {F0 : Nat → Prop} {s : Sto} {β : Beta} {w : World} (h : SRel w0 F0 s β w) {l : Nat} (ho : Own w0 s β w l) (hc : Ctl w l) : SRel w0 (But F0 l) s β w :=
  ⟨h.below, fun i o hi => by
    rcases h.obs i o hi with k1 | ⟨b2, c2, cur2, k1, k2, k3, k4, k5, k6, k7⟩
    · exact .inl k1
    · exact .inr ⟨b2, c2, cur2, k1, k2, k3, k4, k5, k6, fun j dj hj => by
        obtain ⟨y, hy, hr⟩ := k7 j dj hj
        exact ⟨y, hy, hr.but hc⟩⟩, h.inj, h.nx, fun b hb => ⟨h.up b hb, fun e => by have := ho.1; omega⟩, fun i b c h1 h2 => ⟨h.own i b c h1 h2, fun e => by
      subst e
      rcases ho.2.2 with hu | hu
      · have := ho.2.1; omega
      · exact hu.2 i c h1 h2⟩, h.gl⟩
def putAll : List Tmp → List DV → (Nat → DV) → (Nat → DV)
  | t :: ts, d :: ds, f => putAll ts ds (upd f t d)
  | _, _, f => f
theorem putAll_rv {w : World} {F : Nat → Prop} {β : Beta} (ts : List Tmp) : ∀ {ds : List DV} {vals : List Value} {tm : Nat → DV} {tmps : Array Value}, Pw w F β ds vals → (∀ t ∈ ts, t < tmps.size) → (∀ t, RV w F β (tm t) (tmps.getD t undef)) →
    ((ts.zip vals).foldl (fun tmps (p : Tmp × Value) => tmps.setIfInBounds p.1 p.2) tmps).size = tmps.size ∧
    ∀ t, RV w F β (putAll ts ds tm t) (((ts.zip vals).foldl (fun tmps (p : Tmp × Value) => tmps.setIfInBounds p.1 p.2) tmps).getD t undef) := by
  induction ts with
  | nil => intro ds vals tm tmps hp _ h; exact ⟨rfl, h⟩
  | cons t0 ts ih =>
    intro ds vals tm tmps hp hts h
    cases ds with
    | nil =>
      have : vals = [] := List.length_eq_zero_iff.1 hp.1.symm
      subst this
      exact ⟨rfl, h⟩
    | cons d ds =>
      cases vals with
      | nil => have := hp.1; simp at this
      | cons v vals =>
        obtain ⟨k1, k2⟩ := hp.tail
        have hlt := hts t0 (List.mem_cons_self ..)
        have := ih (tm := upd tm t0 d) (tmps := tmps.setIfInBounds t0 v) k2 (fun t ht => by simpa using hts t (List.mem_cons_of_mem _ ht)) (fun t => by
          by_cases e : t = t0
          · subst e
            rw [upd_same, Array.getD_eq_getD_getElem?, Array.getElem?_setIfInBounds_self_of_lt hlt]
            exact k1
          · rw [upd_ne _ _ _ e, Array.getD_eq_getD_getElem?, Array.getElem?_setIfInBounds_ne (fun h => e h.symm), ← Array.getD_eq_getD_getElem?]
            exact h t)
        exact ⟨by simpa using this.1, this.2⟩
def dyend (K : Bool → List DExit → Sto → Prop) : DExit → St → Prop
  | .normal, st => K true (.normal :: st.base.c) st.s
  | e, st => K false (e :: st.base.c) st.s
noncomputable def YH [Inhabited GlobS] (P : Program) (N : Nat) (Y : YT) (ps : Array Tmp) (assign body : Code) (tm : Nat → DV) (l0 : Nat) : YT := fun l ds c s K =>
  l = l0 ∧ match Nat.beq ds.length ps.size, c with
    | true, .normal :: rest => dcode P N Y assign ⟨⟨s.nx, rest⟩, putAll ps.toList ds tm, s⟩ (dthen (fun st => dcode P N Y body st (dyend K)) (fun _ _ => False))
    | _, _ => False
noncomputable def dendR (P : Program) (rs : List ResultVar) (K : DExit → List DExit → Sto → Prop) : DExit → St → Prop
  | .normal, st | .ret, st => dress P rs st (dout (fun _ s => match st.base.c with | e :: rest => K e rest s | [] => False) st.s)
  | _, _ => False
def HR (G : Org) (l : Nat) (r : Loop) (s : Sto) (β : Beta) (w : World) : List DExit → Prop
  | e :: rest => Own G.w0 s β w l ∧ w.heap[l]? = some (.loop { r with state := (match e with | .normal => .ready | _ => .done), pending := jumpOf e }) ∧ G.hr s β w rest
  | [] => False
theorem enter_loop [Inhabited GlobS] {P : Program} {G : Org} {st : St} {β : Beta} {a : Act} {w : World} (hr : Rel G st β a w) (fn : FuncId) (ps : Array Tmp) (assign body : Code) :
    ∃ l mark w1 df, (Instr.enterLoop fn a.tmps ps assign body G.rd).run P w = .ok (l, mark) w1 ∧ BelowD w.heap.size w w1 ∧ w.heap.size ≤ l ∧
      w1.heap[l]? = some (.loop { state := .ready, pending := none, fn, tmps := a.tmps, params := ps, assign, body, defers := df }) ∧
      (G.rd ≠ none → mark = []) ∧ ∀ d, d ∈ mark → ∃ m, mark = [d] ∧ d = { target := .collected m, args := #[] } ∧ w.heap.size ≤ m ∧ m ≠ l ∧ w1.heap[m]? = some (.deferred (some [])) := by
  have hrd := hr.rd
  unfold RdOk at hrd
  cases hG : G.rd with
  | none =>
    refine ⟨w.heap.size + 1, _, _, w.heap.size, run_enterLoop_outer _ _ _ _ _, (((BelowD.refl _ w).alloc (Nat.le_refl _) _).alloc (by simp) _), by omega, ?_, fun h => absurd rfl h, fun d hd => ?_⟩
    · rw [show w.heap.size + 1 = (w.alloc (.deferred (some []))).heap.size by simp]
      exact World.alloc_heap_new _ _
    · rw [List.mem_singleton] at hd
      subst hd
      refine ⟨w.heap.size, rfl, rfl, Nat.le_refl _, by omega, ?_⟩
      rw [heap_alloc_old _ _ (by simp)]
      exact World.alloc_heap_new _ _
  | some l0 =>
    rw [hG] at hrd
    obtain ⟨_, _, r, hl⟩ := hrd
    refine ⟨w.heap.size, [], w.alloc _, r.defers, ?_, (BelowD.refl _ w).alloc (Nat.le_refl _) _, Nat.le_refl _, World.alloc_heap_new _ _, fun _ => rfl, fun d hd => by cases hd⟩
    unfold Instr.enterLoop
    simp only [Sem.run_bind, run_getLoop hl, run_newObj_alloc, Result.andThen, Sem.run_pure]
theorem Ext.inX {n : Nat} {w0 : World} {X X' : Nat → Prop} {s s' : Sto} {β β' : Beta} {w w' : World} (h : Ext n w0 X s β w s' β' w') (hx : ∀ b, X b → X' b) : Ext n w0 X' s β w s' β' w' :=
  ⟨h.grow, h.size, fun b hb hn hu => h.fr b hb (fun k => hn (hx b k)) hu⟩
theorem Keep.putObj {X : Nat → Prop} {w0 : World} {s : Sto} {β : Beta} {w : World} {l : Nat} {x : Obj} (hl : ¬ X l) : Keep X w0 s β w s β (w.putObj l x) := fun b r hb ho h =>
  ⟨ho.putObj, by rw [World.putObj_heap_other (fun e => hl (by rw [← e]; exact hb))]; exact h⟩
theorem round_sound [Inhabited GlobS] {P : Program} {N : Nat} {Y : YT} {G : Org} {ps : Array Tmp} {assign body : Code} {tm : Nat → DV} {l : Nat} {fnid : FuncId} {tmps : Array Value} {df : Nat} (hY : YOk P G Y)
    (hka : codeOk P N assign = true) (hkb : codeOk P N body = true) (hps : ∀ t ∈ ps.toList, t < N) (hsz : tmps.size = N)
    {s0 : Sto} {β0 : Beta} {w1 : World} (hE0 : Ext G.n G.w0 G.X G.s G.β G.w s0 β0 w1) (hn0 : G.n ≤ s0.nx) (hs0 : SRel G.w0 (But G.F0 l) s0 β0 w1) (htm : ∀ t, RV w1 (Fr G.w0 (But G.F0 l) s0 β0) β0 (tm t) (tmps.getD t undef)) (hlX : G.w.heap.size ≤ l)
    (N1 : Nat) (hX1) (hXs1) (hrx1) :
    YOk P ⟨N1, G.w0, But G.F0 l, s0.nx, s0, β0, w1, (fun b => b = l ∨ G.X b), hX1, hXs1, HR G l { state := .ready, pending := none, fn := fnid, tmps := tmps, params := ps, assign := assign, body := body, defers := df }, hrx1, none⟩ (YH P N Y ps assign body tm l) := by
  intro l' ds c s K hy β2 w2 vals hs2 he2 hnx2 hr2 hp2
  obtain ⟨hl', hy⟩ := hy
  subst hl'
  have hnX : ¬ G.X l' := fun h => by have := G.hXs _ h; omega
  split at hy
  case h_2 => exact hy.elim
  rename_i rest hlen
  obtain ⟨ho2, hl2, hr2⟩ := hr2
  have hlen : ds.length = ps.size := Nat.eq_of_beq_eq_true hlen
  refine ⟨_, hl2, by rw [← hp2.1]; exact hlen, ?_⟩
  have hsw : SRel G.w0 G.F0 s β2 w2 := hs2.wide fun b h => h.1
  have hE : Ext G.n G.w0 G.X G.s G.β G.w s β2 w2 := hE0.within he2 hn0 fun b hb h => h.resolve_left (by omega)
  have hXs : ∀ b, G.X b → b < w2.heap.size := fun b h => Nat.lt_of_lt_of_le (G.hXs b h) hE.size
  have hns : G.n ≤ s.nx := Nat.le_trans hn0 hnx2
  let Gy : Org := ⟨N, G.w0, G.F0, s.nx, s, β2, w2, G.X, G.hX, hXs, G.hr, G.hrx, some l'⟩
  have hYy : YOk P Gy Y := fun l2 ds c s2 K hy β3 w3 vals h1 h2 h3 h4 h5 => by
    obtain ⟨r, g1, g2, g3⟩ := hY l2 ds c s2 K hy β3 w3 vals h1 (hE.within h2 hns fun _ _ h => h) (Nat.le_trans hns h3) h4 h5
    exact ⟨r, g1, g2, g3⟩
  have htm2 : ∀ t, RV w2 (Fr G.w0 G.F0 s β2) β2 (tm t) (tmps.getD t undef) := fun t => (RV.extX hs0 hX1 (Nat.le_refl _) he2 (htm t)).wide fun b h => h.1
  have hp2w : Pw w2 (Fr G.w0 G.F0 s β2) β2 ds vals := ⟨hp2.1, fun i d x h1 h2 => (hp2.2 i d x h1 h2).wide fun b h => h.1⟩
  have hput := putAll_rv ps.toList hp2w (fun t ht => by rw [hsz]; exact hps t ht) htm2
  have hfold : (ps.zip vals.toArray).foldl (fun tmps (t, a) => tmps.setIfInBounds t a) tmps = (ps.toList.zip vals).foldl (fun tmps (p : Tmp × Value) => tmps.setIfInBounds p.1 p.2) tmps := by
    rw [← Array.foldl_toList, Array.toList_zip]
  refine roundIn_of_wpIn (F := Wd none) trivial ?_
  show assign.wpIn (Wd (some l')) 0 P _ { tmps := (ps.zip vals.toArray).foldl (fun tmps (t, a) => tmps.setIfInBounds t a) tmps, defers := [] } w2
  rw [hfold]
  have hrel : Rel Gy ⟨⟨s.nx, rest⟩, putAll ps.toList ds tm, s⟩ β2 { tmps := (ps.toList.zip vals).foldl (fun tmps (p : Tmp × Value) => tmps.setIfInBounds p.1 p.2) tmps, defers := [] } w2 :=
    ⟨hsw, .refl, Nat.le_refl _, Nat.le_refl _, hput.2, hput.1.trans hsz, ⟨fun d hd => (by cases hd), .nil, fun _ => rfl⟩, hr2, ⟨ho2, hnX, _, hl2⟩⟩
  refine dcode_sound assign hka hy Gy rfl hYy β2 _ w2 _ hrel fun e st' β' a' w' hq hr' => ?_
  cases e with
  | exit id => exact hq.elim
  | goto t => exact hq.elim
  | ret => exact hq.elim
  | normal =>
    obtain ⟨ho3, hl3⟩ := ho2.ext hnX hr'.ext
    have hl3 := hl3.trans hl2
    refine ⟨_, run_beginRound hl3 rfl, ?_⟩
    show Code.wpIn (Wd (some l')) 0 P body _ a' (w'.putObj l' (.loop { state := .busy, pending := none, fn := fnid, tmps := tmps, params := ps, assign := assign, body := body, defers := df }))
    obtain ⟨q1, q2⟩ := hr'.srel.putObj ho3.2.1 (.inl ⟨_, hl3⟩) (.loop { state := .busy, pending := none, fn := fnid, tmps := tmps, params := ps, assign := assign, body := body, defers := df })
    have hl4 : (w'.putObj l' (.loop { state := .busy, pending := none, fn := fnid, tmps := tmps, params := ps, assign := assign, body := body, defers := df })).heap[l']? = some (.loop { state := .busy, pending := none, fn := fnid, tmps := tmps, params := ps, assign := assign, body := body, defers := df }) := World.putObj_heap_same ho3.1
    have hE1 : Ext s.nx G.w0 (fun b => b = l' ∨ G.X b) s β2 w2 st'.s β' (w'.putObj l' (.loop { state := .busy, pending := none, fn := fnid, tmps := tmps, params := ps, assign := assign, body := body, defers := df })) := (hr'.ext.inX fun b h => .inr h).putObj (.inr (.inl rfl)) _
    have hhr := G.hrx _ _ _ _ _ _ _ hr'.hs (Keep.putObj (x := .loop { state := .busy, pending := none, fn := fnid, tmps := tmps, params := ps, assign := assign, body := body, defers := df }) hnX)
    have hEb : Ext G.n G.w0 G.X G.s G.β G.w st'.s β' (w'.putObj l' (.loop { state := .busy, pending := none, fn := fnid, tmps := tmps, params := ps, assign := assign, body := body, defers := df })) := (hE.within hr'.ext hns fun _ _ h => h).putObj (.inl hlX) _
    have ho4 := ho3.putObj (r := l') (x := .loop { state := .busy, pending := none, fn := fnid, tmps := tmps, params := ps, assign := assign, body := body, defers := df })
    have hdf := hr'.df.rd (by simp [Gy])
    have hnx3 := hr'.nxb
    have hbs3 := hr'.bs
    have hsize3 := hr'.size
    generalize w'.putObj l' (.loop { state := .busy, pending := none, fn := fnid, tmps := tmps, params := ps, assign := assign, body := body, defers := df }) = w3 at q1 q2 hl4 hE1 hhr hEb ho4
    let Gb : Org := ⟨N, G.w0, G.F0, s.nx, st'.s, β', w3, G.X, G.hX, fun b h => Nat.lt_of_lt_of_le (G.hXs b h) hEb.size, G.hr, G.hrx, some l'⟩
    have hYb : YOk P Gb Y := fun l2 ds c s2 K hy β3 w3 vals h1 h2 h3 h4 h5 => by
      obtain ⟨r, g1, g2, g3⟩ := hY l2 ds c s2 K hy β3 w3 vals h1 (hEb.within h2 hns fun _ _ h => h) (Nat.le_trans hns h3) h4 h5
      exact ⟨r, g1, g2, g3⟩
    have hrelb : Rel Gb st' β' a' w3 := ⟨q1, .refl, hbs3, hnx3, fun t => q2 _ _ (hr'.tm t), hsize3, ⟨fun d hd => (by rw [hdf] at hd; cases hd), (by rw [hdf]; exact .nil), fun _ => hdf⟩, hhr, ⟨ho4, hnX, _, hl4⟩⟩
    refine dcode_sound body hkb hq Gb rfl hYb β' a' w3 _ hrelb fun e st2 β3 a3 w4 hq2 hr3 => ?_
    obtain ⟨ho5, hl5⟩ := ho4.ext hnX hr3.ext
    have hl5 := hl5.trans hl4
    have fin : ∀ x : Loop, (∀ K : List DExit → Prop, True) → SRel G.w0 (But G.F0 l') st2.s β3 (w4.putObj l' (.loop x)) ∧ Ext s.nx G.w0 (fun b => b = l' ∨ G.X b) s β2 w2 st2.s β3 (w4.putObj l' (.loop x)) ∧ s.nx ≤ st2.s.nx ∧
        Own G.w0 st2.s β3 (w4.putObj l' (.loop x)) l' ∧ (w4.putObj l' (.loop x)).heap[l']? = some (.loop x) ∧ G.hr st2.s β3 (w4.putObj l' (.loop x)) st2.base.c := fun x _ => by
      have g1 := (hr3.srel.putObj ho5.2.1 (.inl ⟨_, hl5⟩) (.loop x)).1
      have g2 : (w4.putObj l' (.loop x)).heap[l']? = some (.loop x) := World.putObj_heap_same ho5.1
      have g3 := ho5.putObj (r := l') (x := .loop x)
      exact ⟨g1.but g3 (.inl ⟨_, g2⟩), (hE1.trans (hr3.ext.inX fun b h => .inr h)).putObj (.inr (.inl rfl)) _, hr3.nxb, g3, g2, G.hrx _ _ _ _ _ _ _ hr3.hs (Keep.putObj hnX)⟩
    cases e with
    | normal =>
      obtain ⟨g1, g2, g3, g4, g5, g6⟩ := fin { state := .ready, pending := none, fn := fnid, tmps := tmps, params := ps, assign := assign, body := body, defers := df } (fun _ => trivial)
      exact ⟨_, _, run_endRound none hl5, true, _, st2.s, β3, rfl, hq2, g1, g2, g3, g4, g5, g6⟩
    | exit id =>
      obtain ⟨g1, g2, g3, g4, g5, g6⟩ := fin { state := .done, pending := some (.exit id), fn := fnid, tmps := tmps, params := ps, assign := assign, body := body, defers := df } (fun _ => trivial)
      exact ⟨_, _, run_endRound (some (.exit id)) hl5, false, _, st2.s, β3, rfl, hq2, g1, g2, g3, g4, g5, g6⟩
    | goto t =>
      obtain ⟨g1, g2, g3, g4, g5, g6⟩ := fin { state := .done, pending := some (.goto t), fn := fnid, tmps := tmps, params := ps, assign := assign, body := body, defers := df } (fun _ => trivial)
      exact ⟨_, _, run_endRound (some (.goto t)) hl5, false, _, st2.s, β3, rfl, hq2, g1, g2, g3, g4, g5, g6⟩
    | ret =>
      obtain ⟨g1, g2, g3, g4, g5, g6⟩ := fin { state := .done, pending := some .ret, fn := fnid, tmps := tmps, params := ps, assign := assign, body := body, defers := df } (fun _ => trivial)
      exact ⟨_, _, run_endRound (some .ret) hl5, false, _, st2.s, β3, rfl, hq2, g1, g2, g3, g4, g5, g6⟩
theorem HR.x {G : Org} {l : Nat} {r : Loop} (s : Sto) (β : Beta) (w : World) (s' : Sto) (β' : Beta) (w' : World) (c : List DExit) (h : HR G l r s β w c) (k : Keep (fun b => b = l ∨ G.X b) G.w0 s β w s' β' w') : HR G l r s' β' w' c := by
  cases c with
  | nil => exact h
  | cons e rest =>
    obtain ⟨h1, h2, h3⟩ := h
    obtain ⟨k1, k2⟩ := k l _ (.inl rfl) h1 h2
    exact ⟨k1, k2, G.hrx _ _ _ _ _ _ _ h3 fun b r hb => k b r (.inr hb)⟩
theorem Tri.range [Inhabited GlobS] {P : Program} {N : Nat} {Y : YT} {f : Operand} {ps : Array Tmp} {assign body : Code} {st : St} {Q : DExit → St → Prop} {fid : FuncId} {fn : Func} {c : Code} {first cap : List DV}
    (hev : ev st.tm f = .clo (.func fid) first cap) (hent : entersB P fid = true) (hfn : P.funcs[fid]? = some fn) (hb : fn.body = some c) (hn : Nat.ble (first.length + (1 + cap.length)) fn.ntmps = true)
    (hk : (codeOk P fn.ntmps c && codeOk P N assign && codeOk P N body && ps.toList.all fun t => decide (t < N)) = true)
    (h : ∀ l, dcode P fn.ntmps (YH P N Y ps assign body st.tm l) c ⟨⟨st.s.nx, .normal :: st.base.c⟩, entryTm 0 (first ++ [DV.clo (.yield l) [] []] ++ cap) (fun _ => .dead), st.s⟩
      (dendR P fn.results.toList fun e rest s' => Q e ⟨⟨st.base.n, rest⟩, st.tm, s'⟩)) : Tri P N Y (.rangeFunc f ps assign body) st Q := fun G hN hY β a w R hr hR => by
  simp only [Bool.and_eq_true, List.all_eq_true, decide_eq_true_eq] at hk
  obtain ⟨⟨⟨hkc, hka⟩, hkb⟩, hps⟩ := hk
  have hn := Nat.le_of_ble_eq_true hn
  refine wpIn_rangeFunc fun fnid _ => ?_
  obtain ⟨l, mark, w1, df, he, hbel, hle, hl, hmk, hmark⟩ := enter_loop (P := P) hr fnid ps assign body
  have hr1 := hr.below hbel
  have hlt : l < w1.heap.size := (Array.getElem?_eq_some_iff.1 hl).1
  have hgs : G.w.heap.size ≤ w.heap.size := hr.ext.size
  have hws := hbel.size
  have hnX : ¬ G.X l := fun h => by have := G.hXs _ h; omega
  have hown : Own G.w0 st.s β w1 l := ⟨hlt, Nat.le_trans hr.srel.below.size hle, (hr.srel.frUp l hle).2⟩
  have hctl : Ctl w1 l := .inl ⟨_, hl⟩
  have hf := hr1.ev f
  rw [hev] at hf
  obtain ⟨xs, ys, hf, hl1, hl2, hp1, hp2⟩ := rv_clo hf
  have hres : (resolve a.eval (rangeCall f l) 0).run P w1 = .ok { target := .fn (.func fid) ys.toArray, args := (xs ++ [Value.func (.yield l) #[] #[]]).toArray } w1 := by
    simp only [resolve, hf, Deferred.ofValue, Sem.run_pure]
    simp [Act.eval]
  have hinv : (invoke (.fn (.func fid) ys.toArray) (xs ++ [Value.func (.yield l) #[] #[]]).toArray).run P w1 = .ok (.enter fid (xs ++ [Value.func (.yield l) #[] #[]] ++ ys).toArray) w1 := by
    simp only [invoke]
    rw [run_callFunc hent]
    simp
  refine ⟨l, mark, w1, _, w1, fid, _, w1, he, hres, fun _ _ => trivial, hinv, (fun e => by cases e), ?_⟩
  have hX1 : ∀ b, But G.F0 l b → ¬ (b = l ∨ G.X b) := fun b hb h => h.elim (fun e => hb.2 e) (fun h => G.hX b hb.1 h)
  have hXs1 : ∀ b, b = l ∨ G.X b → b < w1.heap.size := fun b h => h.elim (fun e => by rw [e]; exact hlt) fun h => by have := G.hXs b h; omega
  let r : Loop := { state := .ready, pending := none, fn := fnid, tmps := a.tmps, params := ps, assign := assign, body := body, defers := df }
  let G1 : Org := ⟨fn.ntmps, G.w0, But G.F0 l, st.s.nx, st.s, β, w1, fun b => b = l ∨ G.X b, hX1, hXs1, HR G l r, HR.x, none⟩
  have hpw : Pw w1 (Fr G.w0 (But G.F0 l) st.s β) β (first ++ [DV.clo (.yield l) [] []] ++ cap) (xs ++ [Value.func (.yield l) #[] #[]] ++ ys) := by
    have hp : Pw w1 (Fr G.w0 G.F0 st.s β) β (first ++ [DV.clo (.yield l) [] []] ++ cap) (xs ++ [Value.func (.yield l) #[] #[]] ++ ys) :=
      pw_append (pw_append ⟨hl1, hp1⟩ (Pw.cons (.clo (.yield l) [] [] [] [] rfl rfl (fun i d x h => by simp at h) (fun i d x h => by simp at h)) .nil)) ⟨hl2, hp2⟩
    exact ⟨hp.1, fun i d x h1 h2 => (hp.2 i d x h1 h2).but hctl⟩
  have hrel : Rel G1 ⟨⟨st.s.nx, .normal :: st.base.c⟩, entryTm 0 (first ++ [DV.clo (.yield l) [] []] ++ cap) (fun _ => .dead), st.s⟩ β { tmps := (xs ++ [Value.func (.yield l) #[] #[]] ++ ys).toArray ++ Array.replicate (fn.ntmps - (xs ++ [Value.func (.yield l) #[] #[]] ++ ys).toArray.size) undef, defers := [] } w1 :=
    ⟨hr1.srel.but hown hctl, .refl, Nat.le_refl _, Nat.le_refl _, entry_rv hpw _, by simp [G1]; omega, ⟨fun d hd => (by cases hd), .nil, fun _ => rfl⟩, ⟨hown, hl, hr1.hs⟩, trivial⟩
  have hYG : YOk P G1 (YH P N Y ps assign body st.tm l) :=
    round_sound hY hka hkb (fun t ht => hps t ht) (hr.size.trans hN) hr1.ext hr1.nxb (hr1.srel.but hown hctl) (fun t => (hr1.tm t).but hctl) (by omega) _ _ _ _
  refine callsWd (calls_body hfn hb hkc (G := G1) rfl rfl hYG hrel (h l) (fun e st' hq => ?_) fun e st' β' a' w' hQ hr' => ?_)
  · cases e with
    | normal => exact .inl rfl
    | ret => exact .inr rfl
    | exit id => exact hq.elim
    | goto t => exact hq.elim
  · have hQ : dress P fn.results.toList st' (dout (fun _ s => match st'.base.c with | e :: rest => Q e ⟨⟨st.base.n, rest⟩, st.tm, s⟩ | [] => False) st'.s) := by
      cases e with
      | normal => exact hQ
      | ret => exact hQ
      | exit id => exact hQ.elim
      | goto t => exact hQ.elim
    obtain ⟨v, d, hrun, hK, _⟩ := run_out hr' hQ
    refine ⟨v, hrun, ?_⟩
    split at hK
    case h_2 => exact hK.elim
    rename_i e0 rest hc
    have hhr := hr'.hs
    rw [hc] at hhr
    obtain ⟨ho, hl', hG⟩ := hhr
    have hsrel := hr'.srel.wide (F' := G.F0) fun b h => h.1
    have hE0 : Ext st.s.nx G.w0 G.X st.s β w st'.s β' w' := ((hr.srel.below' hbel).2 st.s.nx).toX.within hr'.ext (Nat.le_refl _) fun b hb h => h.resolve_left (by omega)
    have fin : ∀ x : Loop, Rel G ⟨⟨st.base.n, rest⟩, st.tm, st'.s⟩ β' { a with defers := mark ++ a.defers } (w'.putObj l (.loop x)) := fun x => by
      have hm := hr.moved (w' := w'.putObj l (.loop x)) (hsrel.putObj ho.2.1 (.inl ⟨_, hl'⟩) (.loop x)).1 (hE0.putObj (.inl hle) _) hr'.nxb (G.hrx _ _ _ _ _ _ _ hG (Keep.putObj hnX))
      refine ⟨hm.srel, hm.ext, hm.bs, hm.nxb, hm.tm, hm.size, ⟨fun d hd => ?_, ?_, fun h => ?_⟩, hm.hs, hm.rd⟩
      · rcases List.mem_append.1 hd with hd | hd
        · obtain ⟨m, _, e, h1, h2, h3⟩ := hmark d hd
          have hmlt : m < w1.heap.size := (Array.getElem?_eq_some_iff.1 h3).1
          have hmX : ¬ G.X m := fun h => by have := G.hXs _ h; omega
          have hm1 : Own G.w0 st.s β w1 m := ⟨hmlt, Nat.le_trans hr.srel.below.size h1, (hr.srel.frUp m h1).2⟩
          obtain ⟨k1, k2⟩ := hm1.ext (fun h => h.elim h2 hmX) hr'.ext
          exact ⟨m, e, k1.putObj, hmX, by omega, by rw [World.putObj_heap_other h2]; exact k2.trans h3⟩
        · exact hm.df.all d hd
      · refine List.pairwise_append.2 ⟨?_, hr.df.nd, fun d hd d' hd' e => ?_⟩
        · cases hmm : mark with
          | nil => exact .nil
          | cons d ds =>
            obtain ⟨m, e, _⟩ := hmark d (by rw [hmm]; exact List.mem_cons_self ..)
            rw [hmm] at e
            rw [e]
            exact List.pairwise_singleton _ _
        · obtain ⟨m, _, e1, h1, _⟩ := hmark d hd
          obtain ⟨m', e2, _, _, _, h3⟩ := hr.df.all d' hd'
          have hlt' : m' < w.heap.size := (Array.getElem?_eq_some_iff.1 h3).1
          have e3 : m = m' := by
            have := e1.symm.trans (e.trans e2)
            simpa using this
          omega
      · show mark ++ a.defers = []
        rw [hmk h, hr.df.rd h]; rfl
    cases e0 with
    | normal => exact ⟨_, _, run_endLoop hl' (by simp), hR .normal _ _ _ _ hK (fin _)⟩
    | exit id => exact ⟨_, _, run_endLoop hl' (by simp), wpIn_exit (hR (.exit id) _ _ _ _ hK (fin _))⟩
    | goto t => exact ⟨_, _, run_endLoop hl' (by simp), wpIn_goto (hR (.goto t) _ _ _ _ hK (fin _))⟩
    | ret => exact ⟨_, _, run_endLoop hl' (by simp), wpIn_ret (hR .ret _ _ _ _ hK (fin _))⟩
end Go.Dl
