/-
  The data-level logic, part 22: range over a function.
-/
import Derived.Test.YtlchjjchgebfiaaGreatDoorDp21
import Derived.RangeFuncNested

namespace Go.Dl
open Go Go.RowKit
theorem Ext.within {n m : Nat} {w0 : World} {X X' : Nat → Prop} {s s1 s2 : Sto} {β β1 β2 : Beta} {w w1 w2 : World} (h : Ext n w0 X s β w s1 β1 w1) (k : Ext m w0 X' s1 β1 w1 s2 β2 w2) (hn : n ≤ m)
    (hx : ∀ b, b < w.heap.size → X' b → X b) : Ext n w0 X s β w s2 β2 w2 :=
  ⟨fun i hi p hp => k.grow i (by omega) p (h.grow i hi p hp), Nat.le_trans h.size k.size, fun b hb hxb hu => by
    obtain ⟨h1, h2⟩ := h.fr b hb hxb hu
    obtain ⟨h3, h4⟩ := k.fr b (Nat.lt_of_lt_of_le hb h.size) (fun h => hxb (hx b hb h)) h1
    exact ⟨h3, h4.trans h2⟩⟩
def But (F0 : Nat → Prop) (l : Nat) (b : Nat) : Prop := F0 b ∧ b ≠ l
theorem SRel.wide [Inhabited GlobS] {w0 : World} {F F' : Nat → Prop} {s : Sto} {β : Beta} {w : World} (h : SRel w0 F s β w) (hF : ∀ b, F b → F' b) : SRel w0 F' s β w :=
  ⟨h.below, fun i o ho => by
    rcases h.obs i o ho with k1 | ⟨b2, c2, cur2, k1, k2, k3, k4, k5, k6, k7⟩
    · exact .inl k1
    · exact .inr ⟨b2, c2, cur2, k1, k2, k3, k4, k5, k6, fun j dj hj => by
        obtain ⟨y, hy, hr⟩ := k7 j dj hj
        exact ⟨y, hy, hr.mono (fun _ _ h => h) fun b _ hb => ⟨⟨hF b hb.1, hb.2⟩, rfl⟩⟩⟩, h.inj, h.nx, fun b hb => hF b (h.up b hb), fun i b c h1 h2 => hF b (h.own i b c h1 h2), h.gl⟩
theorem RV.wide {w0 : World} {F F' : Nat → Prop} {s : Sto} {β : Beta} {w : World} (hF : ∀ b, F b → F' b) {d : DV} {x : Value} (h : RV w (Fr w0 F s β) β d x) : RV w (Fr w0 F' s β) β d x :=
  h.mono (fun _ _ h => h) fun b _ hb => ⟨⟨hF b hb.1, hb.2⟩, rfl⟩
theorem RV.but {w0 : World} {F0 : Nat → Prop} {s : Sto} {β : Beta} {w : World} {l : Nat} (hc : Ctl w l) {d : DV} {v : Value} (h : RV w (Fr w0 F0 s β) β d v) : RV w (Fr w0 (But F0 l) s β) β d v :=
  h.cells (fun _ _ h => h) fun b o hF ho => ⟨⟨⟨hF.1, fun e => by subst e; exact hc.unseen ho⟩, hF.2⟩, rfl⟩
theorem SRel.but [Inhabited GlobS] {w0 : World} {F0 : Nat → Prop} {s : Sto} {β : Beta} {w : World} (h : SRel w0 F0 s β w) {l : Nat} (ho : Own w0 s β w l) (hc : Ctl w l) : SRel w0 (But F0 l) s β w :=
  ⟨h.below, fun i o hi => by
    rcases h.obs i o hi with k1 | ⟨b2, c2, cur2, k1, k2, k3, k4, k5, k6, k7⟩
    · exact .inl k1
    · exact .inr ⟨b2, c2, cur2, k1, k2, k3, k4, k5, k6, fun j dj hj => by
        obtain ⟨y, hy, hr⟩ := k7 j dj hj
        exact ⟨y, hy, hr.but hc⟩⟩, h.inj, h.nx, fun b hb => ⟨h.up b hb, fun e => by have := ho.1; omega⟩, fun i b c h1 h2 => ⟨h.own i b c h1 h2, fun e => by
      subst e
      rcases ho.2.2 with hu | hu
      · have := ho.2.1; omega
      · exact hu.2 i c h1 h2⟩, h.gl⟩
def putAll : List Tmp → List DV → (Nat → DV) → (Nat → DV)
  | t :: ts, d :: ds, f => putAll ts ds (upd f t d)
  | _, _, f => f
theorem putAll_rv {w : World} {F : Nat → Prop} {β : Beta} (ts : List Tmp) : ∀ {ds : List DV} {vals : List Value} {tm : Nat → DV} {tmps : Array Value}, Pw w F β ds vals → (∀ t ∈ ts, t < tmps.size) → (∀ t, RV w F β (tm t) (tmps.getD t undef)) →
    ((ts.zip vals).foldl (fun tmps (p : Tmp × Value) => tmps.setIfInBounds p.1 p.2) tmps).size = tmps.size ∧
    ∀ t, RV w F β (putAll ts ds tm t) (((ts.zip vals).foldl (fun tmps (p : Tmp × Value) => tmps.setIfInBounds p.1 p.2) tmps).getD t undef) := by
  induction ts with
  | nil => intro ds vals tm tmps hp _ h; exact ⟨rfl, h⟩
  | cons t0 ts ih =>
    intro ds vals tm tmps hp hts h
    cases ds with
    | nil =>
      have : vals = [] := List.length_eq_zero_iff.1 hp.1.symm
      subst this
      exact ⟨rfl, h⟩
    | cons d ds =>
      cases vals with
      | nil => have := hp.1; simp at this
      | cons v vals =>
        obtain ⟨k1, k2⟩ := hp.tail
        have hlt := hts t0 (List.mem_cons_self ..)
        have := ih (tm := upd tm t0 d) (tmps := tmps.setIfInBounds t0 v) k2 (fun t ht => by simpa using hts t (List.mem_cons_of_mem _ ht)) (fun t => by
          by_cases e : t = t0
          · subst e
            rw [upd_same, Array.getD_eq_getD_getElem?, Array.getElem?_setIfInBounds_self_of_lt hlt]
            exact k1
          · rw [upd_ne _ _ _ e, Array.getD_eq_getD_getElem?, Array.getElem?_setIfInBounds_ne (fun h => e h.symm), ← Array.getD_eq_getD_getElem?]
            exact h t)
        exact ⟨by simpa using this.1, this.2⟩
def dyend (K : Bool → List DExit → Sto → Prop) : DExit → St → Prop
  | .normal, st => K true (.normal :: st.base.c) st.s
  | e, st => K false (e :: st.base.c) st.s
noncomputable def YH [Inhabited GlobS] (P : Program) (N : Nat) (Y : YT) (ps : Array Tmp) (assign body : Code) (tm : Nat → DV) (l0 : Nat) : YT := fun l ds c s K =>
  l = l0 ∧ match Nat.beq ds.length ps.size, c with
    | true, .normal :: rest => dcode P N Y assign ⟨⟨s.nx, rest⟩, putAll ps.toList ds tm, s⟩ (dthen (fun st => dcode P N Y body st (dyend K)) (fun _ _ => False))
    | _, _ => False
noncomputable def dendR (P : Program) (rs : List ResultVar) (K : DExit → List DExit → Sto → Prop) : DExit → St → Prop
  | .normal, st | .ret, st => dress P rs st (dout (fun _ s => match st.base.c with | e :: rest => K e rest s | [] => False) st.s)
  | _, _ => False
def HR (G : Org) (l : Nat) (r : Loop) (s : Sto) (β : Beta) (w : World) : List DExit → Prop
  | e :: rest => Own G.w0 s β w l ∧ w.heap[l]? = some (.loop { r with state := (match e with | .normal => .ready | _ => .done), pending := jumpOf e }) ∧ G.hr s β w rest
  | [] => False
theorem enter_loop [Inhabited GlobS] {P : Program} {G : Org} {st : St} {β : Beta} {a : Act} {w : World} (hr : Rel G st β a w) (fn : FuncId) (ps : Array Tmp) (assign body : Code) :
    ∃ l mark w1 df, (Instr.enterLoop fn a.tmps ps assign body G.rd).run P w = .ok (l, mark) w1 ∧ BelowD w.heap.size w w1 ∧ w.heap.size ≤ l ∧
      w1.heap[l]? = some (.loop { state := .ready, pending := none, fn, tmps := a.tmps, params := ps, assign, body, defers := df }) ∧
      (G.rd ≠ none → mark = []) ∧ ∀ d, d ∈ mark → ∃ m, mark = [d] ∧ d = { target := .collected m, args := #[] } ∧ w.heap.size ≤ m ∧ m ≠ l ∧ w1.heap[m]? = some (.deferred (some [])) := by
  have hrd := hr.rd
  unfold RdOk at hrd
  cases hG : G.rd with
  | none =>
    refine ⟨w.heap.size + 1, _, _, w.heap.size, run_enterLoop_outer _ _ _ _ _, (((BelowD.refl _ w).alloc (Nat.le_refl _) _).alloc (by simp) _), by omega, ?_, fun h => absurd rfl h, fun d hd => ?_⟩
    · rw [show w.heap.size + 1 = (w.alloc (.deferred (some []))).heap.size by simp]
      exact World.alloc_heap_new _ _
    · rw [List.mem_singleton] at hd
      subst hd
      refine ⟨w.heap.size, rfl, rfl, Nat.le_refl _, by omega, ?_⟩
      rw [heap_alloc_old _ _ (by simp)]
      exact World.alloc_heap_new _ _
  | some l0 =>
    rw [hG] at hrd
    obtain ⟨_, _, r, hl⟩ := hrd
    refine ⟨w.heap.size, [], w.alloc _, r.defers, ?_, (BelowD.refl _ w).alloc (Nat.le_refl _) _, Nat.le_refl _, World.alloc_heap_new _ _, fun _ => rfl, fun d hd => by cases hd⟩
    unfold Instr.enterLoop
    simp only [Sem.run_bind, run_getLoop hl, run_newObj_alloc, Result.andThen, Sem.run_pure]
theorem Ext.inX {n : Nat} {w0 : World} {X X' : Nat → Prop} {s s' : Sto} {β β' : Beta} {w w' : World} (h : Ext n w0 X s β w s' β' w') (hx : ∀ b, X b → X' b) : Ext n w0 X' s β w s' β' w' :=
  ⟨h.grow, h.size, fun b hb hn hu => h.fr b hb (fun k => hn (hx b k)) hu⟩
theorem Keep.putObj {X : Nat → Prop} {w0 : World} {s : Sto} {β : Beta} {w : World} {l : Nat} {x : Obj} (hl : ¬ X l) : Keep X w0 s β w s β (w.putObj l x) := fun b r hb ho h =>
  ⟨ho.putObj, by rw [World.putObj_heap_other (fun e => hl (by rw [← e]; exact hb))]; exact h⟩
theorem round_sound [Inhabited GlobS] {P : Program} {N : Nat} {Y : YT} {G : Org} {ps : Array Tmp} {assign body : Code} {tm : Nat → DV} {l : Nat} {fnid : FuncId} {tmps : Array Value} {df : Nat} (hY : YOk P G Y)
    (hka : codeOk P N assign = true) (hkb : codeOk P N body = true) (hps : ∀ t ∈ ps.toList, t < N) (hsz : tmps.size = N)
    {s0 : Sto} {β0 : Beta} {w1 : World} (hE0 : Ext G.n G.w0 G.X G.s G.β G.w s0 β0 w1) (hn0 : G.n ≤ s0.nx) (hs0 : SRel G.w0 (But G.F0 l) s0 β0 w1) (htm : ∀ t, RV w1 (Fr G.w0 (But G.F0 l) s0 β0) β0 (tm t) (tmps.getD t undef)) (hlX : G.w.heap.size ≤ l)
    (N1 : Nat) (hX1) (hXs1) (hrx1) :
    YOk P ⟨N1, G.w0, But G.F0 l, s0.nx, s0, β0, w1, (fun b => b = l ∨ G.X b), hX1, hXs1, HR G l { state := .ready, pending := none, fn := fnid, tmps := tmps, params := ps, assign := assign, body := body, defers := df }, hrx1, none⟩ (YH P N Y ps assign body tm l) := by
  intro l' ds c s K hy β2 w2 vals hs2 he2 hnx2 hr2 hp2
  obtain ⟨hl', hy⟩ := hy
  subst hl'
  have hnX : ¬ G.X l' := fun h => by have := G.hXs _ h; omega
  split at hy
  case h_2 => exact hy.elim
  rename_i rest hlen
  obtain ⟨ho2, hl2, hr2⟩ := hr2
  have hlen : ds.length = ps.size := Nat.eq_of_beq_eq_true hlen
  refine ⟨_, hl2, by rw [← hp2.1]; exact hlen, ?_⟩
  have hsw : SRel G.w0 G.F0 s β2 w2 := hs2.wide fun b h => h.1
  have hE : Ext G.n G.w0 G.X G.s G.β G.w s β2 w2 := hE0.within he2 hn0 fun b hb h => h.resolve_left (by omega)
  have hXs : ∀ b, G.X b → b < w2.heap.size := fun b h => Nat.lt_of_lt_of_le (G.hXs b h) hE.size
  have hns : G.n ≤ s.nx := Nat.le_trans hn0 hnx2
  let Gy : Org := ⟨N, G.w0, G.F0, s.nx, s, β2, w2, G.X, G.hX, hXs, G.hr, G.hrx, some l'⟩
  have hYy : YOk P Gy Y := fun l2 ds c s2 K hy β3 w3 vals h1 h2 h3 h4 h5 => by
    obtain ⟨r, g1, g2, g3⟩ := hY l2 ds c s2 K hy β3 w3 vals h1 (hE.within h2 hns fun _ _ h => h) (Nat.le_trans hns h3) h4 h5
    exact ⟨r, g1, g2, g3⟩
  have htm2 : ∀ t, RV w2 (Fr G.w0 G.F0 s β2) β2 (tm t) (tmps.getD t undef) := fun t => (RV.extX hs0 hX1 (Nat.le_refl _) he2 (htm t)).wide fun b h => h.1
  have hp2w : Pw w2 (Fr G.w0 G.F0 s β2) β2 ds vals := ⟨hp2.1, fun i d x h1 h2 => (hp2.2 i d x h1 h2).wide fun b h => h.1⟩
  have hput := putAll_rv ps.toList hp2w (fun t ht => by rw [hsz]; exact hps t ht) htm2
  have hfold : (ps.zip vals.toArray).foldl (fun tmps (t, a) => tmps.setIfInBounds t a) tmps = (ps.toList.zip vals).foldl (fun tmps (p : Tmp × Value) => tmps.setIfInBounds p.1 p.2) tmps := by
    rw [← Array.foldl_toList, Array.toList_zip]
  refine roundIn_of_wpIn (F := Wd none) trivial ?_
  show assign.wpIn (Wd (some l')) 0 P _ { tmps := (ps.zip vals.toArray).foldl (fun tmps (t, a) => tmps.setIfInBounds t a) tmps, defers := [] } w2
  rw [hfold]
  have hrel : Rel Gy ⟨⟨s.nx, rest⟩, putAll ps.toList ds tm, s⟩ β2 { tmps := (ps.toList.zip vals).foldl (fun tmps (p : Tmp × Value) => tmps.setIfInBounds p.1 p.2) tmps, defers := [] } w2 :=
    ⟨hsw, .refl, Nat.le_refl _, Nat.le_refl _, hput.2, hput.1.trans hsz, ⟨fun d hd => (by cases hd), .nil, fun _ => rfl⟩, hr2, ⟨ho2, hnX, _, hl2⟩⟩
  refine dcode_sound assign hka hy Gy rfl hYy β2 _ w2 _ hrel fun e st' β' a' w' hq hr' => ?_
  cases e with
  | exit id => exact hq.elim
  | goto t => exact hq.elim
  | ret => exact hq.elim
  | normal =>
    obtain ⟨ho3, hl3⟩ := ho2.ext hnX hr'.ext
    have hl3 := hl3.trans hl2
    refine ⟨_, run_beginRound hl3 rfl, ?_⟩
    show Code.wpIn (Wd (some l')) 0 P body _ a' (w'.putObj l' (.loop { state := .busy, pending := none, fn := fnid, tmps := tmps, params := ps, assign := assign, body := body, defers := df }))
    obtain ⟨q1, q2⟩ := hr'.srel.putObj ho3.2.1 (.inl ⟨_, hl3⟩) (.loop { state := .busy, pending := none, fn := fnid, tmps := tmps, params := ps, assign := assign, body := body, defers := df })
    have hl4 : (w'.putObj l' (.loop { state := .busy, pending := none, fn := fnid, tmps := tmps, params := ps, assign := assign, body := body, defers := df })).heap[l']? = some (.loop { state := .busy, pending := none, fn := fnid, tmps := tmps, params := ps, assign := assign, body := body, defers := df }) := World.putObj_heap_same ho3.1
    have hE1 : Ext s.nx G.w0 (fun b => b = l' ∨ G.X b) s β2 w2 st'.s β' (w'.putObj l' (.loop { state := .busy, pending := none, fn := fnid, tmps := tmps, params := ps, assign := assign, body := body, defers := df })) := (hr'.ext.inX fun b h => .inr h).putObj (.inr (.inl rfl)) _
    have hhr := G.hrx _ _ _ _ _ _ _ hr'.hs (Keep.putObj (x := .loop { state := .busy, pending := none, fn := fnid, tmps := tmps, params := ps, assign := assign, body := body, defers := df }) hnX)
    have hEb : Ext G.n G.w0 G.X G.s G.β G.w st'.s β' (w'.putObj l' (.loop { state := .busy, pending := none, fn := fnid, tmps := tmps, params := ps, assign := assign, body := body, defers := df })) := (hE.within hr'.ext hns fun _ _ h => h).putObj (.inl hlX) _
    have ho4 := ho3.putObj (r := l') (x := .loop { state := .busy, pending := none, fn := fnid, tmps := tmps, params := ps, assign := assign, body := body, defers := df })
    have hdf := hr'.df.rd (by simp [Gy])
    have hnx3 := hr'.nxb
    have hbs3 := hr'.bs
    have hsize3 := hr'.size
    generalize w'.putObj l' (.loop { state := .busy, pending := none, fn := fnid, tmps := tmps, params := ps, assign := assign, body := body, defers := df }) = w3 at q1 q2 hl4 hE1 hhr hEb ho4
    let Gb : Org := ⟨N, G.w0, G.F0, s.nx, st'.s, β', w3, G.X, G.hX, fun b h => Nat.lt_of_lt_of_le (G.hXs b h) hEb.size, G.hr, G.hrx, some l'⟩
    have hYb : YOk P Gb Y := fun l2 ds c s2 K hy β3 w3 vals h1 h2 h3 h4 h5 => by
      obtain ⟨r, g1, g2, g3⟩ := hY l2 ds c s2 K hy β3 w3 vals h1 (hEb.within h2 hns fun _ _ h => h) (Nat.le_trans hns h3) h4 h5
      exact ⟨r, g1, g2, g3⟩
    have hrelb : Rel Gb st' β' a' w3 := ⟨q1, .refl, hbs3, hnx3, fun t => q2 _ _ (hr'.tm t), hsize3, ⟨fun d hd => (by rw [hdf] at hd; cases hd), (by rw [hdf]; exact .nil), fun _ => hdf⟩, hhr, ⟨ho4, hnX, _, hl4⟩⟩
    refine dcode_sound body hkb hq Gb rfl hYb β' a' w3 _ hrelb fun e st2 β3 a3 w4 hq2 hr3 => ?_
    obtain ⟨ho5, hl5⟩ := ho4.ext hnX hr3.ext
    have hl5 := hl5.trans hl4
    have fin : ∀ x : Loop, (∀ K : List DExit → Prop, True) → SRel G.w0 (But G.F0 l') st2.s β3 (w4.putObj l' (.loop x)) ∧ Ext s.nx G.w0 (fun b => b = l' ∨ G.X b) s β2 w2 st2.s β3 (w4.putObj l' (.loop x)) ∧ s.nx ≤ st2.s.nx ∧
        Own G.w0 st2.s β3 (w4.putObj l' (.loop x)) l' ∧ (w4.putObj l' (.loop x)).heap[l']? = some (.loop x) ∧ G.hr st2.s β3 (w4.putObj l' (.loop x)) st2.base.c := fun x _ => by
      have g1 := (hr3.srel.putObj ho5.2.1 (.inl ⟨_, hl5⟩) (.loop x)).1
      have g2 : (w4.putObj l' (.loop x)).heap[l']? = some (.loop x) := World.putObj_heap_same ho5.1
      have g3 := ho5.putObj (r := l') (x := .loop x)
      exact ⟨g1.but g3 (.inl ⟨_, g2⟩), (hE1.trans (hr3.ext.inX fun b h => .inr h)).putObj (.inr (.inl rfl)) _, hr3.nxb, g3, g2, G.hrx _ _ _ _ _ _ _ hr3.hs (Keep.putObj hnX)⟩
    cases e with
    | normal =>
      obtain ⟨g1, g2, g3, g4, g5, g6⟩ := fin { state := .ready, pending := none, fn := fnid, tmps := tmps, params := ps, assign := assign, body := body, defers := df } (fun _ => trivial)
      exact ⟨_, _, run_endRound none hl5, true, _, st2.s, β3, rfl, hq2, g1, g2, g3, g4, g5, g6⟩
    | exit id =>
      obtain ⟨g1, g2, g3, g4, g5, g6⟩ := fin { state := .done, pending := some (.exit id), fn := fnid, tmps := tmps, params := ps, assign := assign, body := body, defers := df } (fun _ => trivial)
      exact ⟨_, _, run_endRound (some (.exit id)) hl5, false, _, st2.s, β3, rfl, hq2, g1, g2, g3, g4, g5, g6⟩
    | goto t =>
      obtain ⟨g1, g2, g3, g4, g5, g6⟩ := fin { state := .done, pending := some (.goto t), fn := fnid, tmps := tmps, params := ps, assign := assign, body := body, defers := df } (fun _ => trivial)
      exact ⟨_, _, run_endRound (some (.goto t)) hl5, false, _, st2.s, β3, rfl, hq2, g1, g2, g3, g4, g5, g6⟩
    | ret =>
      obtain ⟨g1, g2, g3, g4, g5, g6⟩ := fin { state := .done, pending := some .ret, fn := fnid, tmps := tmps, params := ps, assign := assign, body := body, defers := df } (fun _ => trivial)
      exact ⟨_, _, run_endRound (some .ret) hl5, false, _, st2.s, β3, rfl, hq2, g1, g2, g3, g4, g5, g6⟩
theorem HR.x {G : Org} {l : Nat} {r : Loop} (s : Sto) (β : Beta) (w : World) (s' : Sto) (β' : Beta) (w' : World) (c : List DExit) (h : HR G l r s β w c) (k : Keep (fun b => b = l ∨ G.X b) G.w0 s β w s' β' w') : HR G l r s' β' w' c := by
  cases c with
  | nil => exact h
  | cons e rest =>
    obtain ⟨h1, h2, h3⟩ := h
    obtain ⟨k1, k2⟩ := k l _ (.inl rfl) h1 h2
    exact ⟨k1, k2, G.hrx _ _ _ _ _ _ _ h3 fun b r hb => k b r (.inr hb)⟩
theorem Tri.range [Inhabited GlobS] {P : Program} {N : Nat} {Y : YT} {f : Operand} {ps : Array Tmp} {assign body : Code} {st : St} {Q : DExit → St → Prop} {fid : FuncId} {fn : Func} {c : Code} {first cap : List DV}
    (hev : ev st.tm f = .clo (.func fid) first cap) (hent : entersB P fid = true) (hfn : P.funcs[fid]? = some fn) (hb : fn.body = some c) (hn : Nat.ble (first.length + (1 + cap.length)) fn.ntmps = true)
    (hk : (codeOk P fn.ntmps c && codeOk P N assign && codeOk P N body && ps.toList.all fun t => decide (t < N)) = true)
    (h : ∀ l, dcode P fn.ntmps (YH P N Y ps assign body st.tm l) c ⟨⟨st.s.nx, .normal :: st.base.c⟩, entryTm 0 (first ++ [DV.clo (.yield l) [] []] ++ cap) (fun _ => .dead), st.s⟩
      (dendR P fn.results.toList fun e rest s' => Q e ⟨⟨st.base.n, rest⟩, st.tm, s'⟩)) : Tri P N Y (.rangeFunc f ps assign body) st Q := fun G hN hY β a w R hr hR => by
  simp only [Bool.and_eq_true, List.all_eq_true, decide_eq_true_eq] at hk
  obtain ⟨⟨⟨hkc, hka⟩, hkb⟩, hps⟩ := hk
  have hn := Nat.le_of_ble_eq_true hn
  refine wpIn_rangeFunc fun fnid _ => ?_
  obtain ⟨l, mark, w1, df, he, hbel, hle, hl, hmk, hmark⟩ := enter_loop (P := P) hr fnid ps assign body
  have hr1 := hr.below hbel
  have hlt : l < w1.heap.size := (Array.getElem?_eq_some_iff.1 hl).1
  have hgs : G.w.heap.size ≤ w.heap.size := hr.ext.size
  have hws := hbel.size
  have hnX : ¬ G.X l := fun h => by have := G.hXs _ h; omega
  have hown : Own G.w0 st.s β w1 l := ⟨hlt, Nat.le_trans hr.srel.below.size hle, (hr.srel.frUp l hle).2⟩
  have hctl : Ctl w1 l := .inl ⟨_, hl⟩
  have hf := hr1.ev f
  rw [hev] at hf
  obtain ⟨xs, ys, hf, hl1, hl2, hp1, hp2⟩ := rv_clo hf
  have hres : (resolve a.eval (rangeCall f l) 0).run P w1 = .ok { target := .fn (.func fid) ys.toArray, args := (xs ++ [Value.func (.yield l) #[] #[]]).toArray } w1 := by
    simp only [resolve, hf, Deferred.ofValue, Sem.run_pure]
    simp [Act.eval]
  have hinv : (invoke (.fn (.func fid) ys.toArray) (xs ++ [Value.func (.yield l) #[] #[]]).toArray).run P w1 = .ok (.enter fid (xs ++ [Value.func (.yield l) #[] #[]] ++ ys).toArray) w1 := by
    simp only [invoke]
    rw [run_callFunc hent]
    simp
  refine ⟨l, mark, w1, _, w1, fid, _, w1, he, hres, fun _ _ => trivial, hinv, (fun e => by cases e), ?_⟩
  have hX1 : ∀ b, But G.F0 l b → ¬ (b = l ∨ G.X b) := fun b hb h => h.elim (fun e => hb.2 e) (fun h => G.hX b hb.1 h)
  have hXs1 : ∀ b, b = l ∨ G.X b → b < w1.heap.size := fun b h => h.elim (fun e => by rw [e]; exact hlt) fun h => by have := G.hXs b h; omega
  let r : Loop := { state := .ready, pending := none, fn := fnid, tmps := a.tmps, params := ps, assign := assign, body := body, defers := df }
  let G1 : Org := ⟨fn.ntmps, G.w0, But G.F0 l, st.s.nx, st.s, β, w1, fun b => b = l ∨ G.X b, hX1, hXs1, HR G l r, HR.x, none⟩
  have hpw : Pw w1 (Fr G.w0 (But G.F0 l) st.s β) β (first ++ [DV.clo (.yield l) [] []] ++ cap) (xs ++ [Value.func (.yield l) #[] #[]] ++ ys) := by
    have hp : Pw w1 (Fr G.w0 G.F0 st.s β) β (first ++ [DV.clo (.yield l) [] []] ++ cap) (xs ++ [Value.func (.yield l) #[] #[]] ++ ys) :=
      pw_append (pw_append ⟨hl1, hp1⟩ (Pw.cons (.clo (.yield l) [] [] [] [] rfl rfl (fun i d x h => by simp at h) (fun i d x h => by simp at h)) .nil)) ⟨hl2, hp2⟩
    exact ⟨hp.1, fun i d x h1 h2 => (hp.2 i d x h1 h2).but hctl⟩
  have hrel : Rel G1 ⟨⟨st.s.nx, .normal :: st.base.c⟩, entryTm 0 (first ++ [DV.clo (.yield l) [] []] ++ cap) (fun _ => .dead), st.s⟩ β { tmps := (xs ++ [Value.func (.yield l) #[] #[]] ++ ys).toArray ++ Array.replicate (fn.ntmps - (xs ++ [Value.func (.yield l) #[] #[]] ++ ys).toArray.size) undef, defers := [] } w1 :=
    ⟨hr1.srel.but hown hctl, .refl, Nat.le_refl _, Nat.le_refl _, entry_rv hpw _, by simp [G1]; omega, ⟨fun d hd => (by cases hd), .nil, fun _ => rfl⟩, ⟨hown, hl, hr1.hs⟩, trivial⟩
  have hYG : YOk P G1 (YH P N Y ps assign body st.tm l) :=
    round_sound hY hka hkb (fun t ht => hps t ht) (hr.size.trans hN) hr1.ext hr1.nxb (hr1.srel.but hown hctl) (fun t => (hr1.tm t).but hctl) (by omega) _ _ _ _
  refine callsWd (calls_body hfn hb hkc (G := G1) rfl rfl hYG hrel (h l) (fun e st' hq => ?_) fun e st' β' a' w' hQ hr' => ?_)
  · cases e with
    | normal => exact .inl rfl
    | ret => exact .inr rfl
    | exit id => exact hq.elim
    | goto t => exact hq.elim
  · have hQ : dress P fn.results.toList st' (dout (fun _ s => match st'.base.c with | e :: rest => Q e ⟨⟨st.base.n, rest⟩, st.tm, s⟩ | [] => False) st'.s) := by
      cases e with
      | normal => exact hQ
      | ret => exact hQ
      | exit id => exact hQ.elim
      | goto t => exact hQ.elim
    obtain ⟨v, d, hrun, hK, _⟩ := run_out hr' hQ
    refine ⟨v, hrun, ?_⟩
    split at hK
    case h_2 => exact hK.elim
    rename_i e0 rest hc
    have hhr := hr'.hs
    rw [hc] at hhr
    obtain ⟨ho, hl', hG⟩ := hhr
    have hsrel := hr'.srel.wide (F' := G.F0) fun b h => h.1
    have hE0 : Ext st.s.nx G.w0 G.X st.s β w st'.s β' w' := ((hr.srel.below' hbel).2 st.s.nx).toX.within hr'.ext (Nat.le_refl _) fun b hb h => h.resolve_left (by omega)
    have fin : ∀ x : Loop, Rel G ⟨⟨st.base.n, rest⟩, st.tm, st'.s⟩ β' { a with defers := mark ++ a.defers } (w'.putObj l (.loop x)) := fun x => by
      have hm := hr.moved (w' := w'.putObj l (.loop x)) (hsrel.putObj ho.2.1 (.inl ⟨_, hl'⟩) (.loop x)).1 (hE0.putObj (.inl hle) _) hr'.nxb (G.hrx _ _ _ _ _ _ _ hG (Keep.putObj hnX))
      refine ⟨hm.srel, hm.ext, hm.bs, hm.nxb, hm.tm, hm.size, ⟨fun d hd => ?_, ?_, fun h => ?_⟩, hm.hs, hm.rd⟩
      · rcases List.mem_append.1 hd with hd | hd
        · obtain ⟨m, _, e, h1, h2, h3⟩ := hmark d hd
          have hmlt : m < w1.heap.size := (Array.getElem?_eq_some_iff.1 h3).1
          have hmX : ¬ G.X m := fun h => by have := G.hXs _ h; omega
          have hm1 : Own G.w0 st.s β w1 m := ⟨hmlt, Nat.le_trans hr.srel.below.size h1, (hr.srel.frUp m h1).2⟩
          obtain ⟨k1, k2⟩ := hm1.ext (fun h => h.elim h2 hmX) hr'.ext
          exact ⟨m, e, k1.putObj, hmX, by omega, by rw [World.putObj_heap_other h2]; exact k2.trans h3⟩
        · exact hm.df.all d hd
      · refine List.pairwise_append.2 ⟨?_, hr.df.nd, fun d hd d' hd' e => ?_⟩
        · cases hmm : mark with
          | nil => exact .nil
          | cons d ds =>
            obtain ⟨m, e, _⟩ := hmark d (by rw [hmm]; exact List.mem_cons_self ..)
            rw [hmm] at e
            rw [e]
            exact List.pairwise_singleton _ _
        · obtain ⟨m, _, e1, h1, _⟩ := hmark d hd
          obtain ⟨m', e2, _, _, _, h3⟩ := hr.df.all d' hd'
          have hlt' : m' < w.heap.size := (Array.getElem?_eq_some_iff.1 h3).1
          have e3 : m = m' := by
            have := e1.symm.trans (e.trans e2)
            simpa using this
          omega
      · show mark ++ a.defers = []
        rw [hmk h, hr.df.rd h]; rfl
    cases e0 with
    | normal => exact ⟨_, _, run_endLoop hl' (by simp), hR .normal _ _ _ _ hK (fin _)⟩
    | exit id => exact ⟨_, _, run_endLoop hl' (by simp), wpIn_exit (hR (.exit id) _ _ _ _ hK (fin _))⟩
    | goto t => exact ⟨_, _, run_endLoop hl' (by simp), wpIn_goto (hR (.goto t) _ _ _ _ hK (fin _))⟩
    | ret => exact ⟨_, _, run_endLoop hl' (by simp), wpIn_ret (hR .ret _ _ _ _ hK (fin _))⟩
end Go.Dl


