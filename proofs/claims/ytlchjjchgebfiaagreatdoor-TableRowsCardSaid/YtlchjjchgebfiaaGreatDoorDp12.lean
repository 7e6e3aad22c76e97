/-
  The data-level logic, part 12: a state told anew: slots forgotten, objects given up, lent for good as data, numbered anew.
-/
import Derived.Test.YtlchjjchgebfiaaGreatDoorDp11

namespace Go.Dl
open Go Go.RowKit
inductive DW (ρ : Nat → Option Nat) (s : Sto) (pub : Nat → Prop) : DV → DV → Prop
  | dead (d : DV) : DW ρ s pub d .dead
  | same (d : DV) (h : noId1 d = true) : DW ρ s pub d d
  | ref (id id' off : Nat) (h : ρ id' = some id) : DW ρ s pub (.ref id off) (.ref id' off)
  | arr (id id' len : Nat) (h : ρ id' = some id) : DW ρ s pub (.arr id len) (.arr id' len)
  | sub (id id' off len : Nat) (h : ρ id' = some id) : DW ρ s pub (.sub id off len) (.sub id' off len)
  | mo (id id' : Nat) (h : ρ id' = some id) : DW ρ s pub (.mo id) (.mo id')
  | nilArr (id' : Nat) (h : ρ id' = none) : DW ρ s pub (.v (.slice none 0 0)) (.arr id' 0)
  | nilLst (sz : Nat) : DW ρ s pub (.v (.slice none 0 0)) (.lst sz [])
  | pub (id len : Nat) (o : DObj) (hob : s.ob id = some o) (hp : pub id) (hl : len * o.sz ≤ o.cells.length) (ha : o.cells.all isData1 = true) (hz : 0 < o.sz) :
      DW ρ s pub (.arr id len) (.lst o.sz (chunks o.sz len o.cells))
  | lref (id off : Nat) (o : DObj) (hob : s.ob id = some o) (hp : pub id) (ha : o.cells.all isData1 = true) (hl : o.sz = o.cells.length) (hz : 0 < o.sz) : DW ρ s pub (.ref id off) (.lref o.sz [o.cells] 0 off)
  | agg (ds es : List DV) (hl : ds.length = es.length) (h : ∀ (i : Nat) d e, ds[i]? = some d → es[i]? = some e → DW ρ s pub d e) : DW ρ s pub (.agg ds) (.agg es)
  | tup (ds es : List DV) (hl : ds.length = es.length) (h : ∀ (i : Nat) d e, ds[i]? = some d → es[i]? = some e → DW ρ s pub d e) : DW ρ s pub (.tup ds) (.tup es)
  | clo (f : Fn) (ds es ds' es' : List DV) (hl : ds.length = ds'.length) (hl' : es.length = es'.length) (h : ∀ (i : Nat) d e, ds[i]? = some d → ds'[i]? = some e → DW ρ s pub d e)
      (h' : ∀ (i : Nat) d e, es[i]? = some d → es'[i]? = some e → DW ρ s pub d e) : DW ρ s pub (.clo f ds es) (.clo f ds' es')
  | ifc (t : TypeId) (d e : DV) (h : DW ρ s pub d e) : DW ρ s pub (.ifc t d) (.ifc t e)
  | strip (b : Bool) (d e : DV) (hb : b = true) (h : DW ρ s pub d e) : DW ρ s pub (.when b d) e
def DWl (ρ : Nat → Option Nat) (s : Sto) (pub : Nat → Prop) (ds es : List DV) : Prop :=
  ds.length = es.length ∧ ∀ (i : Nat) d e, ds[i]? = some d → es[i]? = some e → DW ρ s pub d e
section
variable {ρ : Nat → Option Nat} {s : Sto} {pub : Nat → Prop}
theorem DWl.nil : DWl ρ s pub [] [] := ⟨rfl, fun i d e h => by simp at h⟩
theorem DWl.cons {d e : DV} {ds es : List DV} (h : DW ρ s pub d e) (k : DWl ρ s pub ds es) : DWl ρ s pub (d :: ds) (e :: es) :=
  ⟨by simp [k.1], fun i d' e' h1 h2 => by
    cases i with
    | zero => simp at h1 h2; subst h1 h2; exact h
    | succ i => exact k.2 i d' e' (by simpa using h1) (by simpa using h2)⟩
theorem DWl.same {ds : List DV} (h : ds.all noId1 = true) : DWl ρ s pub ds ds :=
  ⟨rfl, fun i d e h1 h2 => by
    rw [h1] at h2; cases h2
    exact .same _ (List.all_eq_true.1 h d (List.mem_of_getElem? h1))⟩
theorem DW.aggl {ds es : List DV} (h : DWl ρ s pub ds es) : DW ρ s pub (.agg ds) (.agg es) := .agg _ _ h.1 h.2
theorem DW.tupl {ds es : List DV} (h : DWl ρ s pub ds es) : DW ρ s pub (.tup ds) (.tup es) := .tup _ _ h.1 h.2
theorem DW.clol {f : Fn} {ds es ds' es' : List DV} (h : DWl ρ s pub ds ds') (h' : DWl ρ s pub es es') : DW ρ s pub (.clo f ds es) (.clo f ds' es') := .clo _ _ _ _ _ h.1 h'.1 h.2 h'.2
end
theorem pub_rd [Inhabited GlobS] {w0 w : World} {F0 F' : Nat → Prop} {s : Sto} {β : Beta} (hs : SRel w0 F0 s β w) {id len : Nat} {o : DObj} (hob : s.ob id = some o) (hle : len * o.sz ≤ o.cells.length)
    (hall : o.cells.all isData1 = true) (hpos : 0 < o.sz) {x : Value} (hx : RV w (Fr w0 F0 s β) β (.arr id len) x) (hF : ∀ b, b < w.heap.size → Fr w0 F0 s β b → F' b) (hb : ∀ b c, β id = some (some (b, c)) → F' b) :
    RD w F' (.lst o.sz (chunks o.sz len o.cells)) x := by
  have hcl : (chunks o.sz len o.cells).length = len := by simp [chunks]
  have hget : ∀ (i : Nat) cs, (chunks o.sz len o.cells)[i]? = some cs → i < len ∧ cs = (o.cells.drop (i * o.sz)).take o.sz := fun i cs h => by
    have hi : i < len := by have := (List.getElem?_eq_some_iff.1 h).1; rw [hcl] at this; exact this
    simp [chunks, hi] at h
    exact ⟨hi, h.symm⟩
  have hfit : ∀ i, i < len → i * o.sz + o.sz ≤ o.cells.length := fun i hi => by
    have : (i + 1) * o.sz ≤ len * o.sz := Nat.mul_le_mul_right _ hi
    rw [Nat.succ_mul] at this
    omega
  rcases rv_arr hx with ⟨b, c, hb', hlc, rfl⟩ | ⟨hb', rfl, rfl⟩
  · rcases hs.obs id o hob with g | ⟨b', c', cur, g1, g2, g3, g4, g5, g6, g7⟩
    · rw [g.1] at hb'; cases hb'
    rw [g1] at hb'
    simp only [Option.some.injEq, Prod.mk.injEq] at hb'
    obtain ⟨rfl, rfl⟩ := hb'
    have key : RD w F' (.lst o.sz (chunks o.sz len o.cells)) (.slice (some ⟨b', 0, none⟩) (chunks o.sz len o.cells).length c') := by
      refine .lst _ _ _ b' 0 c' (fun i j => (cur[i * o.sz + j]?).getD undef) (fun _ => rfl) (fun h => by cases h) (by rw [hcl]; exact hlc) g5 (fun i cs hi => ?_) (fun i cs j d hi hj => ?_) (fun i cs j d hi hj => ?_)
      · obtain ⟨h1, rfl⟩ := hget i cs hi
        have := hfit i h1
        simp; omega
      all_goals
        obtain ⟨h1, rfl⟩ := hget i cs hi
        rw [List.getElem?_take] at hj
        split at hj
        case isFalse => cases hj
        rw [List.getElem?_drop] at hj
        obtain ⟨y, hy, hr⟩ := g7 _ _ hj
      · refine ⟨?_, hb _ _ g1⟩
        have h0 : 0 < o.cells.length := by have := (List.getElem?_eq_some_iff.1 hj).1; omega
        obtain ⟨y0, hy0, hr0⟩ := g7 0 _ (List.getElem?_eq_getElem h0)
        have hd := List.all_eq_true.1 hall _ (List.getElem_mem h0)
        have h1 : y0.oneCell' = true := by
          generalize o.cells[0] = d0 at hr0 hd
          cases hr0 with
          | data h => exact h.one
          | _ => cases hd
        rw [blk_one hy0 h1] at g3
        simp [World.cell?, g3, hy]
      · have hd := List.all_eq_true.1 hall d (List.mem_of_getElem? hj)
        rw [hy]
        simp only [Option.getD_some]
        cases hr with
        | data h => exact h.mono fun b hb hF' => ⟨hF b hb hF', rfl⟩
        | _ => cases hd
    rw [hcl] at key
    exact key
  · exact .lst _ _ none 0 0 0 (fun _ _ => undef) (fun h => by simp [chunks] at h) (fun _ => rfl) (by simp [chunks]) (by simp [maxLen]) (fun i cs h => by simp [chunks] at h) (fun i cs j d h => by simp [chunks] at h) (fun i cs j d h => by simp [chunks] at h)
def reβ (ρ : Nat → Option Nat) (β : Beta) (nx' : Nat) : Beta := fun i => if i < nx' then (match ρ i with | some k => β k | none => some none) else none
theorem DW.rv [Inhabited GlobS] {ρ : Nat → Option Nat} {s : Sto} {pub : Nat → Prop} {w0 w : World} {F0 F' : Nat → Prop} {β β' : Beta} (hs : SRel w0 F0 s β w)
    (hF : ∀ b, b < w.heap.size → Fr w0 F0 s β b → F' b) (hp : ∀ id b c, pub id → β id = some (some (b, c)) → F' b) (hβ : ∀ i k p, ρ i = some k → β k = some p → β' i = some p) (hn : ∀ i, ρ i = none → β' i = some none)
    {d d' : DV} (h : DW ρ s pub d d') : ∀ {x : Value}, RV w (Fr w0 F0 s β) β d x → RV w F' β' d' x := by
  induction h with
  | dead d => intro x _; exact .dead _
  | same d h => intro x hx; exact rv_noId1 hx h fun b hb hF' => ⟨hF b hb hF', rfl⟩
  | ref id id' off h =>
    intro x hx
    obtain ⟨b, c, hb, rfl⟩ := rv_ref hx
    exact .ref _ _ b c (hβ _ _ _ h hb)
  | arr id id' len h =>
    intro x hx
    rcases rv_arr hx with ⟨b, c, hb, hl, rfl⟩ | ⟨hb, rfl, rfl⟩
    · exact .arr _ _ b c (hβ _ _ _ h hb) hl
    · exact .arrNil _ (hβ _ _ _ h hb)
  | sub id id' off len h =>
    intro x hx
    obtain ⟨a, n, rfl, h1, h2, h3⟩ := rv_sub hx
    exact .sub _ _ _ a n (fun h0 => (by obtain ⟨b, c, k1, k2⟩ := h1 h0; exact ⟨b, c, hβ _ _ _ h k1, k2⟩)) h2 h3
  | mo id id' h =>
    intro x hx
    obtain ⟨b, c, hb, rfl⟩ := rv_mo hx
    exact .mo _ b c (hβ _ _ _ h hb)
  | nilArr id' h =>
    intro x hx
    rw [rv_v hx]
    exact .arrNil _ (hn _ h)
  | nilLst sz =>
    intro x hx
    rw [rv_v hx]
    exact .data (.lst sz [] none 0 0 0 (fun _ _ => undef) (fun h => (h rfl).elim) (fun _ => rfl) (by simp) (by simp [maxLen]) (fun i cs h => by simp at h) (fun i cs j d h => by simp at h) (fun i cs j d h => by simp at h))
  | pub id len o hob hpub hl ha hz => intro x hx; exact .data (pub_rd hs hob hl ha hz hx hF (fun b c hb => hp _ _ _ hpub hb))
  | lref id off o hob hpub ha hl hz =>
    intro x hx
    obtain ⟨b, c, hb, rfl⟩ := rv_ref hx
    have hc : 1 ≤ c := by
      rcases hs.obs id o hob with g | ⟨b', c', cur, g1, g2, g3, g4, g5, g6, g7⟩
      · rw [g.1] at hb; cases hb
      · rw [g1] at hb
        simp only [Option.some.injEq, Prod.mk.injEq] at hb
        obtain ⟨rfl, rfl⟩ := hb
        rcases Nat.eq_zero_or_pos c' with h0 | h0
        · rw [h0, Nat.zero_mul] at g4; omega
        · exact h0
    have h1 := pub_rd hs (len := 1) hob (by omega) ha hz (.arr id 1 b c hb hc) hF (fun b c hb => hp _ _ _ hpub hb)
    have h2 : chunks o.sz 1 o.cells = [o.cells] := by
      simp only [chunks, List.range_one, List.map_cons, List.map_nil, Nat.zero_mul, List.drop_zero, hl, List.take_length]
    rw [h2] at h1
    have h3 := RV.lref (w := w) (F := F') (β := β') o.sz [o.cells] 0 off b 0 c h1 (by simp)
    simpa using h3
  | agg ds es hl h ih =>
    intro x hx
    obtain ⟨xs, rfl, hl2, hp⟩ := rv_agg hx
    refine .agg _ _ (by omega) (fun i e y k1 k2 => ?_)
    have hi : i < ds.length := by rw [hl]; exact (List.getElem?_eq_some_iff.1 k1).1
    exact ih i _ _ (List.getElem?_eq_getElem hi) k1 (hp i _ _ (List.getElem?_eq_getElem hi) k2)
  | tup ds es hl h ih =>
    intro x hx
    obtain ⟨xs, rfl, hl2, hp⟩ := rv_tup hx
    refine .tup _ _ (by omega) (fun i e y k1 k2 => ?_)
    have hi : i < ds.length := by rw [hl]; exact (List.getElem?_eq_some_iff.1 k1).1
    exact ih i _ _ (List.getElem?_eq_getElem hi) k1 (hp i _ _ (List.getElem?_eq_getElem hi) k2)
  | clo f ds es ds' es' hl hl' h h' ih ih' =>
    intro x hx
    obtain ⟨xs, ys, rfl, hl2, hl3, hp1, hp2⟩ := rv_clo hx
    refine .clo _ _ _ _ _ (by omega) (by omega) (fun i e y k1 k2 => ?_) (fun i e y k1 k2 => ?_)
    · have hi : i < ds.length := by rw [hl]; exact (List.getElem?_eq_some_iff.1 k1).1
      exact ih i _ _ (List.getElem?_eq_getElem hi) k1 (hp1 i _ _ (List.getElem?_eq_getElem hi) k2)
    · have hi : i < es.length := by rw [hl']; exact (List.getElem?_eq_some_iff.1 k1).1
      exact ih' i _ _ (List.getElem?_eq_getElem hi) k1 (hp2 i _ _ (List.getElem?_eq_getElem hi) k2)
  | ifc t d e h ih =>
    intro x hx
    cases hx with
    | data h => cases h
    | ifc _ _ y hy => exact .ifc _ _ _ (ih hy)
  | strip b d e hb h ih =>
    intro x hx
    cases hx with
    | data h => cases h
    | whn _ _ _ h1 _ => exact ih (h1 hb)
structure SW (ρ : Nat → Option Nat) (s s' : Sto) (base : Nat) (pub : Nat → Prop) : Prop where
  ob : ∀ i o', s'.ob i = some o' → i < s'.nx ∧ (match ρ i with
    | some k => ∃ o, s.ob k = some o ∧ o.elem = o'.elem ∧ o.sz = o'.sz ∧ o'.cells.length ≤ o.cells.length ∧ DWl ρ s pub (o.cells.take o'.cells.length) o'.cells
    | none => o'.cells = [])
  inj : ∀ i j k, (s'.ob i).isSome = true → (s'.ob j).isSome = true → ρ i = some k → ρ j = some k → i = j
  keep : ∀ i, i < base → i < s'.nx ∧ ρ i = some i
  pub : ∀ i k, (s'.ob i).isSome = true → ρ i = some k → ¬ pub k
  dom : ∀ i k, ρ i = some k → k < s.nx → i < s'.nx
  domn : ∀ i, ρ i = none → i < s'.nx
theorem SW.stepF [Inhabited GlobS] {ρ : Nat → Option Nat} {s s' : Sto} {base : Nat} {pub : Nat → Prop} (h : SW ρ s s' base pub) {w0 w : World} {F0 : Nat → Prop} (F1 : Nat → Prop) {β : Beta} (hs : SRel w0 F0 s β w)
    (c1 : ∀ b, Fr w0 F0 s β b → F1 b) (c2 : ∀ k b c, (s.ob k).isSome = true → β k = some (some (b, c)) → (pub k ∨ ∃ i, (s'.ob i).isSome = true ∧ ρ i = some k) → F1 b) (c3 : ∀ b, w.heap.size ≤ b → F1 b) :
    SRel w0 F1 s' (reβ ρ β s'.nx) w ∧ Ext base w0 nX s β w s' (reβ ρ β s'.nx) w ∧ ∀ {d d' : DV} {x : Value}, DW ρ s pub d d' → RV w (Fr w0 F0 s β) β d x → RV w (Fr w0 F1 s' (reβ ρ β s'.nx)) (reβ ρ β s'.nx) d' x := by
  have hβ : ∀ i k p, ρ i = some k → β k = some p → reβ ρ β s'.nx i = some p := fun i k p h1 h2 => by
    have hk : k < s.nx := Nat.lt_of_not_le fun hk => by rw [(hs.nx k hk).1] at h2; cases h2
    simp only [reβ, if_pos (h.dom i k h1 hk), h1, h2]
  have hn : ∀ i, ρ i = none → reβ ρ β s'.nx i = some none := fun i h1 => by
    simp only [reβ, if_pos (h.domn i h1), h1]
  -- a number of the new store that lies in a block
  have hown : ∀ i b c, (s'.ob i).isSome = true → reβ ρ β s'.nx i = some (some (b, c)) → ∃ k, ρ i = some k ∧ (s.ob k).isSome = true ∧ β k = some (some (b, c)) := fun i b c hi hb => by
    obtain ⟨o', ho'⟩ := Option.isSome_iff_exists.1 hi
    obtain ⟨h1, h2⟩ := h.ob i o' ho'
    simp only [reβ, if_pos h1] at hb
    split at hb
    · rename_i k hk
      simp only [hk] at h2
      obtain ⟨o, ho, _⟩ := h2
      exact ⟨k, hk, by simp [ho], hb⟩
    · cases hb
  have hU : ∀ b, Un w0 s β b → Un w0 s' (reβ ρ β s'.nx) b := fun b hF => by
    rcases hF with hF | ⟨h1, h2⟩
    · exact .inl hF
    · refine .inr ⟨h1, fun i c hi hb => ?_⟩
      obtain ⟨k, _, k2, k3⟩ := hown i b c hi hb
      exact h2 k c k2 k3
  have hF : ∀ b, b < w.heap.size → Fr w0 F0 s β b → Fr w0 F1 s' (reβ ρ β s'.nx) b := fun b _ hF => ⟨c1 b hF, hU b hF.2⟩
  have hp : ∀ id b c, pub id → β id = some (some (b, c)) → (s.ob id).isSome = true → Fr w0 F1 s' (reβ ρ β s'.nx) b := fun id b c hpub hb hsome => by
    obtain ⟨o, ho⟩ := Option.isSome_iff_exists.1 hsome
    rcases hs.obs id o ho with g | ⟨b', c', cur, g1, g2, _⟩
    · rw [g.1] at hb; cases hb
    rw [g1] at hb
    simp only [Option.some.injEq, Prod.mk.injEq] at hb
    obtain ⟨rfl, rfl⟩ := hb
    refine ⟨c2 id b' c' hsome g1 (.inl hpub), .inr ⟨g2, fun i c hi hb => ?_⟩⟩
    obtain ⟨k, k1, k2, k3⟩ := hown i _ c hi hb
    have e := hs.inj k id b' _ _ k2 hsome k3 g1
    subst e
    exact h.pub i _ hi k1 hpub
  have hrv : ∀ {d d' : DV} {x : Value}, DW ρ s (fun id => pub id ∧ (s.ob id).isSome = true) d d' → RV w (Fr w0 F0 s β) β d x → RV w (Fr w0 F1 s' (reβ ρ β s'.nx)) (reβ ρ β s'.nx) d' x := fun h hx =>
    h.rv hs hF (fun id b c hpub hb => hp id b c hpub.1 hb hpub.2) hβ hn hx
  have hdw : ∀ {d d' : DV}, DW ρ s pub d d' → DW ρ s (fun id => pub id ∧ (s.ob id).isSome = true) d d' := fun {d d'} h => by
    induction h with
    | dead d => exact .dead _
    | same d h => exact .same _ h
    | ref id id' off h => exact .ref _ _ _ h
    | arr id id' len h => exact .arr _ _ _ h
    | sub id id' off len h => exact .sub _ _ _ _ h
    | mo id id' h => exact .mo _ _ h
    | nilArr id' h => exact .nilArr _ h
    | nilLst sz => exact .nilLst _
    | pub id len o hob hp hl ha hz => exact .pub _ _ _ hob ⟨hp, by simp [hob]⟩ hl ha hz
    | lref id off o hob hp ha hl hz => exact .lref _ _ _ hob ⟨hp, by simp [hob]⟩ ha hl hz
    | agg ds es hl h ih => exact .agg _ _ hl ih
    | tup ds es hl h ih => exact .tup _ _ hl ih
    | clo f ds es ds' es' hl hl' h h' ih ih' => exact .clo _ _ _ _ _ hl hl' ih ih'
    | ifc t d e h ih => exact .ifc _ _ _ ih
    | strip b d e hb h ih => exact .strip _ _ _ hb ih
  refine ⟨⟨hs.below, fun i o' ho' => ?_, fun i j b c c' hi hj hbi hbj => ?_, fun i hi => ?_, c3, fun i b c hi hb => by obtain ⟨k, k1, k2, k3⟩ := hown i b c hi hb; exact c2 k b c k2 k3 (.inr ⟨i, hi, k1⟩), hs.gl⟩, ⟨fun i hi p hp' => ?_, Nat.le_refl _, fun b hb _ hF' => ⟨hU b hF', rfl⟩⟩, fun hd hx => hrv (hdw hd) hx⟩
  · obtain ⟨h1, h2⟩ := h.ob i o' ho'
    cases hk : ρ i with
    | none => simp only [hk] at h2; exact .inl ⟨hn i hk, h2⟩
    | some k =>
      simp only [hk] at h2
      obtain ⟨o, ho, e1, e2, e3, e4⟩ := h2
      rcases hs.obs k o ho with g | ⟨b', c', cur, g1, g2, g3, g4, g5, g6, g7⟩
      · refine .inl ⟨hβ _ _ _ hk g.1, ?_⟩
        have := g.2
        rw [this] at e3
        exact List.length_eq_zero_iff.1 (by simpa using e3)
      · refine .inr ⟨b', c', cur, hβ _ _ _ hk g1, g2, by rw [← e1]; exact g3, by rw [← e2]; exact g4, g5, by omega, fun j d hj => ?_⟩
        have hjl : j < o'.cells.length := (List.getElem?_eq_some_iff.1 hj).1
        have hjo : o.cells[j]? = some (o.cells[j]'(by omega)) := List.getElem?_eq_getElem _
        obtain ⟨x, hx, hr⟩ := g7 j _ hjo
        refine ⟨x, hx, hrv (hdw (e4.2 j _ _ ?_ hj)) hr⟩
        rw [List.getElem?_take, if_pos hjl]
        exact hjo
  · obtain ⟨k, k1, k2, k3⟩ := hown i b c hi hbi
    obtain ⟨k', k1', k2', k3'⟩ := hown j b c' hj hbj
    have e := hs.inj k k' b c c' k2 k2' k3 k3'
    subst e
    exact h.inj i j k hi hj k1 k1'
  · have hi' : ¬ i < s'.nx := by omega
    refine ⟨by simp only [reβ, if_neg hi'], ?_⟩
    cases ho : s'.ob i with
    | none => rfl
    | some o' => exact absurd (h.ob i o' ho).1 hi'
  · obtain ⟨h1, h2⟩ := h.keep i hi
    exact hβ i i p h2 hp'
theorem SW.step [Inhabited GlobS] {ρ : Nat → Option Nat} {s s' : Sto} {base : Nat} {pub : Nat → Prop} (h : SW ρ s s' base pub) {w0 w : World} {F0 : Nat → Prop} {β : Beta} (hs : SRel w0 F0 s β w) :
    SRel w0 F0 s' (reβ ρ β s'.nx) w ∧ Ext base w0 nX s β w s' (reβ ρ β s'.nx) w ∧ ∀ {d d' : DV} {x : Value}, DW ρ s pub d d' → RV w (Fr w0 F0 s β) β d x → RV w (Fr w0 F0 s' (reβ ρ β s'.nx)) (reβ ρ β s'.nx) d' x :=
  h.stepF F0 hs (fun _ hF => hF.1) (fun k b c hk hb _ => hs.own k b c hk hb) hs.up
end Go.Dl


