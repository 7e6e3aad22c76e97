/-
  The data-level logic, part 20: calls whose arguments are told anew as data: lent for the call, or given up for good.
-/
import Derived.Test.YtlchjjchgebfiaaGreatDoorDl19
namespace Go.Dl
open Go Go.RowKit

/-- Objects are given up: their blocks may be read by immutable data from now on, and are written no more. -/
theorem SRel.hide [Inhabited GlobS] {w0 : World} {F0 : Nat → Prop} {s : Sto} {β : Beta} {w : World} (h : SRel w0 F0 s β w) (T : List Nat) :
    SRel w0 F0 (s.hide T) β w ∧ ∀ n, Ext n w0 nX s β w (s.hide T) β w := by
  have hsome : ∀ i, ((s.hide T).ob i).isSome = true → (s.ob i).isSome = true := fun i hi => by
    obtain ⟨o, ho⟩ := Option.isSome_iff_exists.1 hi
    rw [(hide_ob ho).1]; rfl
  have hext : ∀ n, Ext n w0 nX s β w (s.hide T) β w := fun n =>
    ⟨fun _ _ _ hp => hp, Nat.le_refl _, fun b hb _ hF => ⟨by
      rcases hF with hF | hF
      · exact .inl hF
      · exact .inr ⟨hF.1, fun i c hi => hF.2 i c (hsome i hi)⟩, rfl⟩⟩
  refine ⟨⟨h.below, fun i oi hi => ?_, fun i j b c1 c2 hi hj => h.inj i j b c1 c2 (hsome i hi) (hsome j hj), fun i hi => ?_, h.up, fun i b c hi hb => h.own i b c (hsome i hi) hb, h.gl⟩, hext⟩
  · rcases h.obs i oi (hide_ob hi).1 with k1 | ⟨b2, c2, cur2, k1, k2, k3, k4, k5, k6, k7⟩
    · exact .inl k1
    · exact .inr ⟨b2, c2, cur2, k1, k2, k3, k4, k5, k6, fun j dj hj => by
        obtain ⟨y, hy, hr⟩ := k7 j dj hj
        exact ⟨y, hy, RV.ext h (Nat.le_refl _) (hext _) hr⟩⟩
  · have := h.nx i hi
    refine ⟨this.1, ?_⟩
    unfold Sto.hide
    simp only
    split
    · rfl
    · exact this.2

/-- What is given up: one of 'T', and there. -/
def Gv (s : Sto) (T : List Nat) : Nat → Prop := fun i => i ∈ T ∧ (s.ob i).isSome = true

theorem SCall.tell [Inhabited GlobS] {P : Program} {f : FuncId} {args args' : List DV} {s : Sto} {K : DV → Sto → Prop} {r : DV} (T : List Nat) (h : DPure P f args' r) (hd : DWl (fun i => some i) s (Gv s T) args args')
    (hargs : args'.all noIds = true) (hr : noIds r = true) (hK : K r (s.hide T)) : SCall P f args s K := fun w0 F0 β w vals hs hx => by
  obtain ⟨hs', hext⟩ := hs.hide T
  have hx' : Pw w (Fr w0 F0 (s.hide T) β) β args' vals := by
    refine ⟨by rw [← hd.1]; exact hx.1, fun i d' x h1 h2 => ?_⟩
    have hi : i < args.length := by rw [hd.1]; exact (List.getElem?_eq_some_iff.1 h1).1
    have h3 := List.getElem?_eq_getElem hi
    refine DW.rv hs (fun b hb hF => ((hext 0).fr' (fun _ _ h => h) b hb hF).1) (fun id b c hid hb => ?_) (fun i k p e hp => by cases e; exact hp) (fun i e => by cases e) (hd.2 i _ _ h3 h1) (hx.2 i _ _ h3 h2)
    obtain ⟨hid, hob⟩ := hid
    obtain ⟨o, ho⟩ := Option.isSome_iff_exists.1 hob
    have hge : w0.heap.size ≤ b := by
      rcases hs.obs id o ho with k1 | ⟨b2, c2, cur2, k1, k2, _⟩
      · rw [k1.1] at hb; cases hb
      · rw [k1] at hb; cases hb; exact k2
    refine ⟨hs.own id b c hob hb, .inr ⟨hge, fun i c' hi hb' => ?_⟩⟩
    obtain ⟨oi, hoi⟩ := Option.isSome_iff_exists.1 hi
    have e := hs.inj i id b c' c (by rw [(hide_ob hoi).1]; rfl) hob hb' hb
    have := (hide_ob hoi).2
    rw [e] at this
    simp at this
    exact this hid
  have := SCall.data (K := K) h hargs hr hK w0 F0 β w vals hs' hx'
  refine this.mono fun e w' ⟨v, r, s2, β2, he, hk, h1, h2, h3, h4⟩ => ⟨v, r, s2, β2, he, hk, h1, (hext _).trans h2, h3, h4⟩

/-- The same for the time of the call, where the result is plain. -/
theorem lendW [Inhabited GlobS] {w0 w : World} {F0 : Nat → Prop} {s : Sto} {β : Beta} (hs : SRel w0 F0 s β w) {args args' : List DV} {vals : List Value} (hd : DWl (fun i => some (i + s.nx)) s (fun _ => True) args args')
    (hx : Pw w (Fr w0 F0 s β) β args vals) : Pw w (fun _ => True) (fun _ => none) args' vals := by
  refine ⟨by rw [← hd.1]; exact hx.1, fun i d' x h1 h2 => ?_⟩
  have hi : i < args.length := by rw [hd.1]; exact (List.getElem?_eq_some_iff.1 h1).1
  have h3 := List.getElem?_eq_getElem hi
  exact DW.rv hs (fun _ _ _ => trivial) (fun _ _ _ _ _ => trivial) (fun i k p e hp => by cases e; rw [(hs.nx _ (by omega)).1] at hp; cases hp) (fun i e => by cases e) (hd.2 i _ _ h3 h1) (hx.2 i _ _ h3 h2)

theorem pcallW [Inhabited GlobS] {P : Program} {f : FuncId} {args args' : List DV} {s : Sto} {r : DV} (hr : Dl.scal r = true) (hd : DWl (fun i => some (i + s.nx)) s (fun _ => True) args args') (h : DPure P f args' r) : PSem P f args s r :=
  fun w0 F0 β w vals hs hx => (h w (fun _ => True) vals hs.gok (fun _ _ => trivial) (lendW hs hd hx)).mono fun e w' ⟨v, r', s', β', he, hq, h1, h2⟩ => by
    subst hq
    have := rv_scal h2 hr
    subst this
    exact ⟨he, h1.below⟩

theorem SCall.scalT [Inhabited GlobS] {P : Program} {f : FuncId} {args args' : List DV} {s : Sto} {K : DV → Sto → Prop} {r : DV} (h : DPure P f args' r) (hd : DWl (fun i => some (i + s.nx)) s (fun _ => True) args args') (hr : Dl.scal r = true) (hK : K r s) : SCall P f args s K :=
  fun w0 F0 β w vals hs hx => (pcallW hr hd h _ _ _ _ _ hs hx).mono fun e w' ⟨he, hb⟩ => by
    obtain ⟨h1, h2⟩ := hs.below' hb
    exact ⟨_, r, s, β, he, hK, h1, h2 _, Nat.le_refl _, rv_svalOf hr⟩

theorem PCall.tell [Inhabited GlobS] {P : Program} {f : FuncId} {args args' : List DV} {s : Sto} {g : Bool} {K : DV → Prop} {r : DV} (h : g = true → DPure P f args' r) (hd : g = true → DWl (fun i => some (i + s.nx)) s (fun _ => True) args args') (hr : Dl.scal r = true) (hK : K r) : PCall P f args s g K :=
  ⟨r, fun hg => ⟨hr, pcallW hr (hd hg) (h hg)⟩, hK⟩

section
variable {P : Program} {f : FuncId} {args args' : List DV} {s : Sto} {g : Bool} {Kd : DV → Prop} {Kt : DV → Sto → Prop} {Kf : Prop} {r : DV}
theorem hide_nil (s : Sto) : s.hide [] = s := by
  cases s; unfold Sto.hide; simp
theorem GCall.data [Inhabited GlobS] (h : g = true → DPure P f args r) (hargs : args.all noIds = true) (hr : noIds r = true) (hK : Kd r) : GCall P f args s g Kd Kt Kf :=
  .inl ⟨r, fun hg => SCall.data (h hg) hargs hr ⟨rfl, rfl⟩, hK⟩
theorem GCall.scal [Inhabited GlobS] (h : g = true → DPure P f args' r) (hl : args.mapM (lend s) = some args') (hr : Dl.scal r = true) (hK : Kd r) : GCall P f args s g Kd Kt Kf :=
  .inl ⟨r, fun hg => SCall.scal (h hg) hl hr ⟨rfl, rfl⟩, hK⟩
theorem GCall.tell [Inhabited GlobS] (h : g = true → DPure P f args' r) (hd : g = true → DWl (fun i => some i) s (Gv s []) args args') (hargs : args'.all noIds = true) (hr : noIds r = true) (hK : Kd r) : GCall P f args s g Kd Kt Kf :=
  .inl ⟨r, fun hg => SCall.tell [] (h hg) (hd hg) hargs hr ⟨rfl, hide_nil s⟩, hK⟩
theorem GCall.scalT [Inhabited GlobS] (h : g = true → DPure P f args' r) (hd : g = true → DWl (fun i => some (i + s.nx)) s (fun _ => True) args args') (hr : Dl.scal r = true) (hK : Kd r) : GCall P f args s g Kd Kt Kf :=
  .inl ⟨r, fun hg => SCall.scalT (h hg) (hd hg) hr ⟨rfl, rfl⟩, hK⟩
theorem GCall.split [Inhabited GlobS] (h : g = true → SCall P f args s Kt) (h' : g = false → Kf) : GCall P f args s g Kd Kt Kf := .inr ⟨h, h'⟩
theorem GCall.none [Inhabited GlobS] (hg : g = false) (hK : Kd .dead) : GCall P f args s g Kd Kt Kf := .inl ⟨.dead, (fun h => by rw [hg] at h; cases h), hK⟩
theorem GCall.mark [Inhabited GlobS] (h : GCall P f args s g Kd Kt Kf) : GCall P f args s g Kd Kt Kf := h
end

theorem DW.pubM {α : Type} {f : α → List DV} {l : List α} {ρ : Nat → Option Nat} {s : Sto} {id sz n : Nat} {o : DObj} (hob : s.ob id = some o) (hn : l.length = n) (hsz : o.sz = sz) (hz : Nat.ble 1 sz = true) (hr : ∀ r ∈ l.map f, r.length = sz ∧ r.all isData1 = true)
    (hc : o.cells = (l.map f).flatten) : DW ρ s (fun _ => True) (.arr id n) (.lst sz (l.map f)) :=
  DW.pubE hob hsz (Nat.le_of_ble_eq_true hz) trivial (by simpa using hn) hr hc
theorem DW.pubG {α : Type} {f : α → List DV} {l : List α} {ρ : Nat → Option Nat} {s : Sto} {T : List Nat} {id sz n : Nat} {o : DObj} (hob : s.ob id = some o) (hn : l.length = n) (hsz : o.sz = sz) (hz : Nat.ble 1 sz = true) (hT : T.contains id = true) (hr : ∀ r ∈ l.map f, r.length = sz ∧ r.all isData1 = true)
    (hc : o.cells = (l.map f).flatten) : DW ρ s (Gv s T) (.arr id n) (.lst sz (l.map f)) :=
  DW.pubE hob hsz (Nat.le_of_ble_eq_true hz) ⟨by simpa using hT, by rw [hob]; rfl⟩ (by simpa using hn) hr hc

theorem Tells.mark {r0 r : DV} {s : Sto} (h : Tells r0 r s) : Tells r0 r s := h
theorem Retold.mark {K : DV → Sto → Prop} {base : Nat} {r : DV} {s : Sto} (h : Retold K base r s) : Retold K base r s := h

theorem Tri.movesN [Inhabited GlobS] {P : Program} {N : Nat} {Y : YT} {id : Nat} {ops : Array Oper} {st : St} {Q : DExit → St → Prop} (T : List Nat) (l : List (Bool × Nat)) (_ : l.length = ops.size) (hk : regB P N ops l = true)
    (h : dmoves P ops (st.s.hide T) T l st st.tm (Q .normal)) : Tri P N Y (.region id ops true) st Q := Tri.moves T l hk h
end Go.Dl
