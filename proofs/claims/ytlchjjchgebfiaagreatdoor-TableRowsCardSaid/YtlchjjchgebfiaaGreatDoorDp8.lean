/-
  The data-level logic, part 8: states, guards, calls, regions, code ('dcode'), and soundness.
-/
import Derived.Test.YtlchjjchgebfiaaGreatDoorDp7
import Derived.Test.YtlchjjchgebfiaaGreatDoorDp0

namespace Go.Dl
open Go Go.RowKit
inductive DExit where
  | normal
  | exit (id : Nat)
  | goto (l : Nat)
  | ret
structure Base where
  n : Nat
  c : List DExit
instance (k : Nat) : OfNat Base k := ⟨⟨k, []⟩⟩
structure St where
  base : Base
  tm : Nat → DV
  s : Sto
def ev (tm : Nat → DV) : Operand → DV
  | .tmp t => tm t
  | .const x => if x.oneCell' = true then .v x else .dead
  | .global g => .v (.pointer (some ⟨g, 0, none⟩))
  | .func f => .clo (.func f) [] []
def St.put (st : St) (dst : Option Tmp) (d : DV) : St :=
  match dst with
  | some t => { st with tm := upd st.tm t d }
  | none => st
def St.setS (st : St) (s : Sto) : St := { st with s := s }
def Own (w0 : World) (s : Sto) (β : Beta) (w : World) (b : Nat) : Prop := b < w.heap.size ∧ w0.heap.size ≤ b ∧ Un w0 s β b
theorem Own.ext {w0 : World} {X : Nat → Prop} {s s' : Sto} {β β' : Beta} {w w' : World} {b n : Nat} (h : Own w0 s β w b) (hx : ¬ X b) (he : Ext n w0 X s β w s' β' w') : Own w0 s' β' w' b ∧ w'.heap[b]? = w.heap[b]? := by
  obtain ⟨h1, h2⟩ := he.fr b h.1 hx h.2.2
  exact ⟨⟨Nat.lt_of_lt_of_le h.1 he.size, h.2.1, h1⟩, h2⟩
def Keep (X : Nat → Prop) (w0 : World) (s : Sto) (β : Beta) (w : World) (s' : Sto) (β' : Beta) (w' : World) : Prop :=
  ∀ b r, X b → Own w0 s β w b → w.heap[b]? = some (.loop r) → Own w0 s' β' w' b ∧ w'.heap[b]? = some (.loop r)
structure Org where
  N : Nat
  w0 : World
  F0 : Nat → Prop
  n : Nat
  s : Sto
  β : Beta
  w : World
  X : Nat → Prop
  hX : ∀ b, F0 b → ¬ X b
  hXs : ∀ b, X b → b < w.heap.size
  hr : Sto → Beta → World → List DExit → Prop
  hrx : ∀ s β w s' β' w' c, hr s β w c → Keep X w0 s β w s' β' w' → hr s' β' w' c
  rd : Option Nat
def DExit.real : DExit → Exit
  | .normal => .normal
  | .exit id => .exit id
  | .goto l => .goto l
  | .ret => .ret
def jumpOf : DExit → Option Code
  | .normal => none
  | .ret => some .ret
  | .exit k => some (.exit k)
  | .goto k => some (.goto k)
structure DfOk (G : Org) (s : Sto) (β : Beta) (w : World) (ds : List Deferred) : Prop where
  all : ∀ d, d ∈ ds → ∃ r, d = { target := .collected r, args := #[] } ∧ Own G.w0 s β w r ∧ ¬ G.X r ∧ G.w.heap.size ≤ r ∧ w.heap[r]? = some (.deferred (some []))
  nd : ds.Pairwise (· ≠ ·)
  rd : G.rd ≠ none → ds = []
def RdOk (G : Org) (s : Sto) (β : Beta) (w : World) : Prop :=
  match G.rd with
  | none => True
  | some l => Own G.w0 s β w l ∧ ¬ G.X l ∧ ∃ r, w.heap[l]? = some (.loop r)
theorem Ext.keep {n : Nat} {w0 : World} {X : Nat → Prop} {s s' : Sto} {β β' : Beta} {w w' : World} (he : Ext n w0 nX s β w s' β' w') : Keep X w0 s β w s' β' w' := fun b r _ h1 h2 => by
  obtain ⟨k1, k2⟩ := h1.ext (fun h => h) he
  exact ⟨k1, k2.trans h2⟩
theorem DfOk.ext {G : Org} {X : Nat → Prop} (hX : ∀ b, X b → G.X b) {s s' : Sto} {β β' : Beta} {w w' : World} {n : Nat} {ds : List Deferred} (h : DfOk G s β w ds) (he : Ext n G.w0 X s β w s' β' w') : DfOk G s' β' w' ds := ⟨fun d hd => by
  obtain ⟨r, e, h1, h2, h3, h4⟩ := h.all d hd
  obtain ⟨k1, k2⟩ := h1.ext (fun h => h2 (hX _ h)) he
  exact ⟨r, e, k1, h2, h3, k2.trans h4⟩, h.nd, h.rd⟩
theorem RdOk.ext {G : Org} {X : Nat → Prop} (hX : ∀ b, X b → G.X b) {s s' : Sto} {β β' : Beta} {w w' : World} {n : Nat} (h : RdOk G s β w) (he : Ext n G.w0 X s β w s' β' w') : RdOk G s' β' w' := by
  unfold RdOk at h ⊢
  split at h
  · trivial
  · obtain ⟨h1, h2, r, h3⟩ := h
    obtain ⟨k1, k2⟩ := h1.ext (fun h => h2 (hX _ h)) he
    exact ⟨k1, h2, r, k2.trans h3⟩
structure Rel [Inhabited GlobS] (G : Org) (st : St) (β : Beta) (a : Act) (w : World) : Prop where
  srel : SRel G.w0 G.F0 st.s β w
  ext : Ext G.n G.w0 G.X G.s G.β G.w st.s β w
  bs : G.n ≤ st.base.n
  nxb : G.n ≤ st.s.nx
  tm : ∀ t, RV w (Fr G.w0 G.F0 st.s β) β (st.tm t) (a.tmps.getD t undef)
  size : a.tmps.size = G.N
  df : DfOk G st.s β w a.defers
  hs : G.hr st.s β w st.base.c
  rd : RdOk G st.s β w
theorem Rel.ev [Inhabited GlobS] {G : Org} {st : St} {β : Beta} {a : Act} {w : World} (h : Rel G st β a w) : ∀ x, RV w (Fr G.w0 G.F0 st.s β) β (ev st.tm x) (a.eval x) := fun x => by
  cases x with
  | tmp t => exact h.tm t
  | const v =>
    simp only [Dl.ev]
    split
    · rename_i hv; exact .data (.v _ hv)
    · exact .dead _
  | global g => exact .data (.v _ rfl)
  | func f => exact .clo (.func f) [] [] [] [] rfl rfl (fun i d x h => by simp at h) (fun i d x h => by simp at h)
theorem Rel.step [Inhabited GlobS] {G : Org} {st : St} {β β' : Beta} {a : Act} {w w' : World} {s' : Sto} (h : Rel G st β a w) (h1 : SRel G.w0 G.F0 s' β' w')
    (h2 : Ext st.s.nx G.w0 nX st.s β w s' β' w') (h3 : st.s.nx ≤ s'.nx) (dst : Option Tmp) (hd : (dst.all fun t => decide (t < G.N)) = true) (d : DV) (v : Value) (hv : RV w' (Fr G.w0 G.F0 s' β') β' d v) :
    Rel G ((st.setS s').put dst d) β' (a.put dst v) w' := by
  have key : ∀ t, RV w' (Fr G.w0 G.F0 s' β') β' (st.tm t) (a.tmps.getD t undef) := fun t => RV.ext h.srel (Nat.le_refl _) h2 (h.tm t)
  cases dst with
  | none => exact ⟨h1, h.ext.trans (h2.mono h.nxb).toX, h.bs, Nat.le_trans h.nxb h3, key, h.size, h.df.ext (fun _ h => h.elim) h2, G.hrx _ _ _ _ _ _ _ h.hs h2.keep, h.rd.ext (fun _ h => h.elim) h2⟩
  | some t0 =>
    refine ⟨h1, h.ext.trans (h2.mono h.nxb).toX, h.bs, Nat.le_trans h.nxb h3, fun t => ?_, by simpa [Act.put, St.put] using h.size, h.df.ext (fun _ h => h.elim) h2, G.hrx _ _ _ _ _ _ _ h.hs h2.keep, h.rd.ext (fun _ h => h.elim) h2⟩
    have hlt : t0 < a.tmps.size := by rw [h.size]; simpa using hd
    by_cases e : t = t0
    · subst e
      simp only [St.put, upd_same, Act.put]
      rw [Array.getD_eq_getD_getElem?, Array.getElem?_setIfInBounds_self_of_lt hlt]
      exact hv
    · simp only [St.put, upd_ne _ _ _ e, Act.put]
      rw [Array.getD_eq_getD_getElem?, Array.getElem?_setIfInBounds_ne (fun h => e h.symm), ← Array.getD_eq_getD_getElem?]
      exact key t
theorem Rel.put [Inhabited GlobS] {G : Org} {st : St} {β : Beta} {a : Act} {w : World} (h : Rel G st β a w) (dst : Option Tmp) (hd : (dst.all fun t => decide (t < G.N)) = true) (d : DV) (v : Value)
    (hv : RV w (Fr G.w0 G.F0 st.s β) β d v) : Rel G (st.put dst d) β (a.put dst v) w :=
  h.step h.srel .refl (Nat.le_refl _) dst hd d v hv
theorem Rel.below [Inhabited GlobS] {G : Org} {st : St} {β : Beta} {a : Act} {w w' : World} (h : Rel G st β a w) (hb : BelowD w.heap.size w w') : Rel G st β a w' := by
  obtain ⟨h1, h2⟩ := h.srel.below' hb
  exact ⟨h1, h.ext.trans (h2 _).toX, h.bs, h.nxb, fun t => RV.ext h.srel (Nat.le_refl _) (h2 _) (h.tm t), h.size, h.df.ext (fun _ h => h.elim) (h2 0), G.hrx _ _ _ _ _ _ _ h.hs (h2 0).keep, h.rd.ext (fun _ h => h.elim) (h2 0)⟩
def DFun [Inhabited GlobS] (P : Program) (f : FuncId) (args : List DV) (Q : DV → Sto → Prop) : Prop :=
  ∀ (w : World) (F : Nat → Prop) (vals : List Value), Gok w → (∀ b, w.heap.size ≤ b → F b) → Pw w F (fun _ => none) args vals →
    Calls P f vals.toArray w fun e w' => ∃ v r s' β', e = .returned v ∧ Q r s' ∧ SRel w F s' β' w' ∧ RV w' (Fr w F s' β') β' r v
def DPure [Inhabited GlobS] (P : Program) (f : FuncId) (args : List DV) (r : DV) : Prop := DFun P f args fun r' _ => r' = r
def SCall [Inhabited GlobS] (P : Program) (f : FuncId) (args : List DV) (s : Sto) (K : DV → Sto → Prop) : Prop :=
  ∀ (w0 : World) (F0 : Nat → Prop) (β : Beta) (w : World) (vals : List Value), SRel w0 F0 s β w → Pw w (Fr w0 F0 s β) β args vals →
    Calls P f vals.toArray w fun e w' => ∃ v r s' β', e = .returned v ∧ K r s' ∧ SRel w0 F0 s' β' w' ∧ Ext s.nx w0 nX s β w s' β' w' ∧ s.nx ≤ s'.nx ∧ RV w' (Fr w0 F0 s' β') β' r v
def scal : DV → Bool
  | .v x => x.oneCell'
  | .tup ds => ds.all fun | .v x => x.oneCell' | _ => false
  | _ => false
def svalOf : DV → Value
  | .v x => x
  | .tup ds => .tuple (ds.map fun | .v x => x | _ => undef).toArray
  | _ => undef
theorem rv_scal {w : World} {F : Nat → Prop} {β : Beta} {d : DV} {x : Value} (h : RV w F β d x) (hd : scal d = true) : x = svalOf d := by
  unfold scal at hd
  split at hd
  · rw [rv_v h]; rfl
  · rename_i ds
    obtain ⟨xs, rfl, hl, hp⟩ := rv_tup h
    simp only [svalOf]
    congr 2
    apply List.ext_getElem? 
    intro i
    rw [List.getElem?_map]
    cases hi : ds[i]? with
    | none =>
      have : ds.length ≤ i := by simpa using hi
      simp; omega
    | some d =>
      have hlt : i < xs.length := by rw [← hl]; exact (List.getElem?_eq_some_iff.1 hi).1
      have hm := List.all_eq_true.1 hd d (List.mem_of_getElem? hi)
      have := hp i d _ hi (List.getElem?_eq_getElem hlt)
      split at hm
      · rw [List.getElem?_eq_getElem hlt, rv_v this]; rfl
      · cases hm
  · cases hd
theorem rd_scal {w w' : World} {F F' : Nat → Prop} {β β' : Beta} {d : DV} {x : Value} (h : RV w F β d x) (hd : scal d = true) : RV w' F' β' d x := by
  unfold scal at hd
  split at hd
  · cases h with
    | data h => cases h with | v _ h => exact .data (.v _ h)
  · rename_i ds
    obtain ⟨xs, rfl, hl, hp⟩ := rv_tup h
    refine .tup _ _ hl (fun i d x h1 h2 => ?_)
    have hm := List.all_eq_true.1 hd d (List.mem_of_getElem? h1)
    have := hp i d x h1 h2
    split at hm
    · cases this with
      | data h => cases h with | v _ h => exact .data (.v _ h)
    · cases hm
  · cases hd
theorem rv_svalOf {w : World} {F : Nat → Prop} {β : Beta} {d : DV} (hd : scal d = true) : RV w F β d (svalOf d) := by
  unfold scal at hd
  split at hd
  · exact .data (.v _ hd)
  · rename_i ds
    refine .tup _ _ (by simp) (fun i d x h1 h2 => ?_)
    have hm := List.all_eq_true.1 hd d (List.mem_of_getElem? h1)
    rw [List.getElem?_map, h1] at h2
    split at hm
    · simp at h2; subst h2; exact .data (.v _ hm)
    · cases hm
  · cases hd
def chunks (sz len : Nat) (cells : List DV) : List (List DV) := (List.range len).map fun i => (cells.drop (i * sz)).take sz
def isData1 : DV → Bool
  | .v _ | .lst .. => true
  | _ => false
def lend1 (s : Sto) : DV → Option DV
  | .v x => some (.v x)
  | .lst sz es => some (.lst sz es)
  | .lref sz es i off => some (.lref sz es i off)
  | .arr id len => match s.ob id with
    | some o => if len * o.sz ≤ o.cells.length ∧ o.cells.all isData1 = true ∧ 0 < o.sz then some (.lst o.sz (chunks o.sz len o.cells)) else none
    | none => none
  | .clo fn [] [] => some (.clo fn [] [])
  | .dead => some .dead
  | _ => none
def lend (s : Sto) : DV → Option DV
  | .agg cs => (cs.mapM (lend1 s)).map .agg
  | d => lend1 s d
def PSem [Inhabited GlobS] (P : Program) (f : FuncId) (args : List DV) (s : Sto) (r : DV) : Prop :=
  ∀ (w0 : World) (F0 : Nat → Prop) (β : Beta) (w : World) (vals : List Value), SRel w0 F0 s β w → Pw w (Fr w0 F0 s β) β args vals →
    Calls P f vals.toArray w fun e w' => e = .returned (svalOf r) ∧ BelowD w.heap.size w w'
def PCall [Inhabited GlobS] (P : Program) (f : FuncId) (args : List DV) (s : Sto) (g : Bool) (K : DV → Prop) : Prop :=
  ∃ r, (g = true → scal r = true ∧ PSem P f args s r) ∧ K r
def GCall [Inhabited GlobS] (P : Program) (f : FuncId) (args : List DV) (s : Sto) (g : Bool) (Kd : DV → Prop) (Kt : DV → Sto → Prop) (Kf : Prop) : Prop :=
  (∃ r, (g = true → SCall P f args s fun r' s' => r' = r ∧ s' = s) ∧ Kd r) ∨ ((g = true → SCall P f args s Kt) ∧ (g = false → Kf))
theorem rd_all {w : World} {F : Nat → Prop} {d : DV} {x : Value} (h : RD w F d x) : RD w (fun _ => True) d x := h.mono fun _ _ _ => ⟨trivial, rfl⟩
theorem mapM_get {α β : Type} (f : α → Option β) : ∀ (l : List α) (r : List β), l.mapM f = some r → l.length = r.length ∧ ∀ (i : Nat) x y, l[i]? = some x → r[i]? = some y → f x = some y := fun l => by
  induction l with
  | nil => intro r h; simp at h; subst h; simp
  | cons a l ih =>
    intro r h
    simp only [List.mapM_cons, Option.bind_eq_bind, Option.bind_eq_some_iff, Option.pure_def, Option.some.injEq] at h
    obtain ⟨b, hb, bs, hbs, rfl⟩ := h
    obtain ⟨i1, i2⟩ := ih bs hbs
    refine ⟨by simp [i1], fun i x y h1 h2 => ?_⟩
    cases i with
    | zero => simp at h1 h2; subst h1 h2; exact hb
    | succ i => exact i2 i x y (by simpa using h1) (by simpa using h2)
theorem lend1_sound [Inhabited GlobS] {w0 w : World} {F0 : Nat → Prop} {s : Sto} {β : Beta} (hs : SRel w0 F0 s β w) {d d' : DV} {x : Value} (h : lend1 s d = some d') (hx : RV w (Fr w0 F0 s β) β d x) :
    RV w (fun _ => True) (fun _ => none) d' x := by
  unfold lend1 at h
  split at h
  · cases h
    cases hx with
    | data h => exact .data (rd_all h)
  · cases h
    cases hx with
    | data h => exact .data (rd_all h)
  · cases h
    obtain ⟨b, o, cap, hrd, hi, rfl⟩ := rv_lref hx
    exact .lref _ _ _ _ b o cap (rd_all hrd) hi
  · rename_i id len
    split at h
    · rename_i o hob
      split at h
      · rename_i hc
        obtain ⟨hle, hall, hpos⟩ := hc
        cases h
        have hcl : (chunks o.sz len o.cells).length = len := by simp [chunks]
        have hget : ∀ (i : Nat) cs, (chunks o.sz len o.cells)[i]? = some cs → i < len ∧ cs = (o.cells.drop (i * o.sz)).take o.sz := fun i cs h => by
          have hi : i < len := by have := (List.getElem?_eq_some_iff.1 h).1; rw [hcl] at this; exact this
          simp [chunks, hi] at h
          exact ⟨hi, h.symm⟩
        have hfit : ∀ i, i < len → i * o.sz + o.sz ≤ o.cells.length := fun i hi => by
          have : (i + 1) * o.sz ≤ len * o.sz := Nat.mul_le_mul_right _ hi
          rw [Nat.succ_mul] at this
          omega
        rcases rv_arr hx with ⟨b, c, hb, hlc, rfl⟩ | ⟨hb, rfl, rfl⟩
        · rcases hs.obs id o hob with g | ⟨b', c', cur, g1, g2, g3, g4, g5, g6, g7⟩
          · rw [g.1] at hb; cases hb
          rw [g1] at hb
          simp only [Option.some.injEq, Prod.mk.injEq] at hb
          obtain ⟨rfl, rfl⟩ := hb
          have key : RD w (fun _ => True) (.lst o.sz (chunks o.sz len o.cells)) (.slice (some ⟨b', 0, none⟩) (chunks o.sz len o.cells).length c') := by
            refine .lst _ _ _ b' 0 c' (fun i j => (cur[i * o.sz + j]?).getD undef) (fun _ => rfl) (fun h => by cases h) (by rw [hcl]; exact hlc) g5 (fun i cs hi => ?_) (fun i cs j d hi hj => ?_) (fun i cs j d hi hj => ?_)
            · obtain ⟨h1, rfl⟩ := hget i cs hi
              have := hfit i h1
              simp; omega
            all_goals
              obtain ⟨h1, rfl⟩ := hget i cs hi
              rw [List.getElem?_take] at hj
              split at hj
              case isFalse => cases hj
              rw [List.getElem?_drop] at hj
              obtain ⟨y, hy, hr⟩ := g7 _ _ hj
            · refine ⟨?_, trivial⟩
              have h0 : 0 < o.cells.length := by have := (List.getElem?_eq_some_iff.1 hj).1; omega
              obtain ⟨y0, hy0, hr0⟩ := g7 0 _ (List.getElem?_eq_getElem h0)
              have hd := List.all_eq_true.1 hall _ (List.getElem_mem h0)
              have h1 : y0.oneCell' = true := by
                generalize o.cells[0] = d0 at hr0 hd
                cases hr0 with
                | data h => exact h.one
                | _ => cases hd
              rw [blk_one hy0 h1] at g3
              simp [World.cell?, g3, hy]
            · have hd := List.all_eq_true.1 hall d (List.mem_of_getElem? hj)
              rw [hy]
              simp only [Option.getD_some]
              cases hr with
              | data h => exact rd_all h
              | _ => cases hd
          rw [hcl] at key
          exact .data key
        · have key : RD w (fun _ => True) (.lst o.sz (chunks o.sz 0 o.cells)) (.slice none (chunks o.sz 0 o.cells).length 0) :=
            .lst _ _ none 0 0 0 (fun _ _ => undef) (fun h => by simp [chunks] at h) (fun _ => rfl) (by simp [chunks]) (by simp [maxLen]) (fun i cs h => by simp [chunks] at h) (fun i cs j d h => by simp [chunks] at h) (fun i cs j d h => by simp [chunks] at h)
          exact .data key
      · cases h
    · cases h
  · cases h
    obtain ⟨xs, ys, rfl, hl, hl', _⟩ := rv_clo hx
    have h1 : xs = [] := List.length_eq_zero_iff.1 hl.symm
    have h2 : ys = [] := List.length_eq_zero_iff.1 hl'.symm
    subst h1 h2
    exact .clo _ [] [] [] [] rfl rfl (fun i d x h => by simp at h) (fun i d x h => by simp at h)
  · cases h; exact .dead _
  · cases h
theorem lend_sound [Inhabited GlobS] {w0 w : World} {F0 : Nat → Prop} {s : Sto} {β : Beta} (hs : SRel w0 F0 s β w) {d d' : DV} {x : Value} (h : lend s d = some d') (hx : RV w (Fr w0 F0 s β) β d x) :
    RV w (fun _ => True) (fun _ => none) d' x := by
  unfold lend at h
  split at h
  · rename_i cs
    obtain ⟨cs', h1, rfl⟩ := Option.map_eq_some_iff.1 h
    obtain ⟨hl, hm⟩ := mapM_get _ _ _ h1
    obtain ⟨xs, rfl, hl2, hp⟩ := rv_agg hx
    refine .agg _ _ (by omega) (fun i d x k1 k2 => ?_)
    have hi : i < cs.length := by rw [hl]; exact (List.getElem?_eq_some_iff.1 k1).1
    exact lend1_sound hs (hm i _ _ (List.getElem?_eq_getElem hi) k1) (hp i _ _ (List.getElem?_eq_getElem hi) k2)
  · exact lend1_sound hs h hx
theorem lends_sound [Inhabited GlobS] {w0 w : World} {F0 : Nat → Prop} {s : Sto} {β : Beta} (hs : SRel w0 F0 s β w) {args args' : List DV} {vals : List Value} (h : args.mapM (lend s) = some args') (hx : Pw w (Fr w0 F0 s β) β args vals) :
    Pw w (fun _ => True) (fun _ => none) args' vals := by
  obtain ⟨hl, hm⟩ := mapM_get _ _ _ h
  refine ⟨by rw [← hl]; exact hx.1, fun i d x k1 k2 => ?_⟩
  have hi : i < args.length := by rw [hl]; exact (List.getElem?_eq_some_iff.1 k1).1
  exact lend_sound hs (hm i _ _ (List.getElem?_eq_getElem hi) k1) (hx.2 i _ _ (List.getElem?_eq_getElem hi) k2)
theorem pcall_sound [Inhabited GlobS] {P : Program} {f : FuncId} {args : List DV} {s : Sto} {r : DV} (hr : scal r = true) {args' : List DV} (hl : args.mapM (lend s) = some args') (h : DPure P f args' r)
    {w0 w : World} {F0 : Nat → Prop} {β : Beta} {vals : List Value} (hs : SRel w0 F0 s β w) (hx : Pw w (Fr w0 F0 s β) β args vals) :
    Calls P f vals.toArray w fun e w' => e = .returned (svalOf r) ∧ BelowD w.heap.size w w' :=
  (h w (fun _ => True) vals hs.gok (fun _ _ => trivial) (lends_sound hs hl hx)).mono fun e w' ⟨v, r', s', β', he, hq, hs', hv⟩ => by
    subst hq
    exact ⟨by rw [he, rv_scal hv hr], hs'.below⟩
theorem SCall.scal [Inhabited GlobS] {P : Program} {f : FuncId} {args args' : List DV} {s : Sto} {K : DV → Sto → Prop} {r : DV} (h : DPure P f args' r) (hl : args.mapM (lend s) = some args') (hr : scal r = true) (hK : K r s) : SCall P f args s K :=
  fun w0 F0 β w vals hs hx => (h w (fun _ => True) vals hs.gok (fun _ _ => trivial) (lends_sound hs hl hx)).mono fun e w' ⟨v, r', s', β', he, hq, hs', hv⟩ => by
    subst hq
    obtain ⟨k1, k2⟩ := hs.below' hs'.below
    exact ⟨v, r', s, β, he, hK, k1, k2 _, Nat.le_refl _, rd_scal hv hr⟩
end Go.Dl


