/-
  The data-level logic, part 10: code, its soundness, calls that are entered.
-/
import Derived.Test.YtagfmppjlfhmeaaGreatDoorDp6
import Derived.Deep.LoopGhost
import Derived.LoopNIn

namespace Go.Dl
open Go Go.RowKit
theorem RD.cells {w w' : World} {F F' : Nat → Prop} {d : DV} {x : Value} (h : RD w F d x)
    (hw : ∀ b o, F b → (w.cell? ⟨b, o, none⟩).isSome = true → F' b ∧ w'.heap[b]? = w.heap[b]?) : RD w' F' d x := by
  induction h with
  | v x h => exact .v x h
  | lst sz es a b off cap g ha hn hc hm hsz hcell hd ih =>
    refine .lst sz es a b off cap g ha hn hc hm hsz (fun i cs j d h1 h2 => ?_) (fun i cs j d h1 h2 => ih i cs j d h1 h2)
    obtain ⟨h3, h4⟩ := hcell i cs j d h1 h2
    obtain ⟨h5, h6⟩ := hw b _ h4 (by rw [h3]; rfl)
    refine ⟨?_, h5⟩
    rw [World.cell?_of_block (w := w) (a := ⟨b, off + i * sz + j, none⟩) h6]
    exact h3
def Seen (w : World) (b o : Nat) : Prop := (w.cell? ⟨b, o, none⟩).isSome = true ∨ ∃ es c, w.heap[b]? = some (.map es c)
theorem RV.cells {w w' : World} {F F' : Nat → Prop} {β β' : Beta} {d : DV} {x : Value} (h : RV w F β d x)
    (hβ : ∀ i p, β i = some p → β' i = some p)
    (hw : ∀ b o, F b → Seen w b o → F' b ∧ w'.heap[b]? = w.heap[b]?) : RV w' F' β' d x := by
  induction h with
  | data h => exact .data (h.cells fun b o hF ho => hw b o hF (.inl ho))
  | lref sz es i off b o cap h hi => exact .lref sz es i off b o cap (h.cells fun b o hF ho => hw b o hF (.inl ho)) hi
  | ref id off b c h => exact .ref id off b c (hβ _ _ h)
  | arr id len b c h hl => exact .arr id len b c (hβ _ _ h) hl
  | arrNil id h => exact .arrNil id (hβ _ _ h)
  | sub id off len a n h hn hl => exact .sub id off len a n (fun h0 => (by obtain ⟨b, c, h1, h2⟩ := h h0; exact ⟨b, c, hβ _ _ h1, h2⟩)) hn hl
  | agg ds xs hl h ih => exact .agg ds xs hl ih
  | tup ds xs hl h ih => exact .tup ds xs hl ih
  | clo fn ds es xs ys hl hl' h h' ih ih' => exact .clo fn ds es xs ys hl hl' ih ih'
  | ifc t d x h ih => exact .ifc t d x ih
  | mp es b clk h hF =>
    obtain ⟨h1, h2⟩ := hw b 0 hF (.inr ⟨_, _, h⟩)
    exact .mp es b clk (h2.trans h) h1
  | mo id b c h => exact .mo id b c (hβ _ _ h)
  | whn b d x h h0 ih => exact .whn b d x ih h0
  | dead x => exact .dead x
def Ctl (w : World) (b : Nat) : Prop := (∃ r, w.heap[b]? = some (.loop r)) ∨ ∃ ds, w.heap[b]? = some (.deferred ds)
theorem Ctl.none {w : World} {b : Nat} (h : Ctl w b) (o : Nat) : (w.cell? ⟨b, o, none⟩) = none := by
  rcases h with ⟨r, h⟩ | ⟨ds, h⟩ <;> simp [World.cell?, h]
theorem Ctl.unseen {w : World} {b : Nat} (h : Ctl w b) {o : Nat} (hs : Seen w b o) : False := by
  rcases hs with hs | ⟨es, c, hs⟩
  · rw [h.none o] at hs; cases hs
  · rcases h with ⟨r, h⟩ | ⟨ds, h⟩ <;> rw [hs] at h <;> cases h
theorem SRel.putObj [Inhabited GlobS] {w0 : World} {F0 : Nat → Prop} {s : Sto} {β : Beta} {w : World} (h : SRel w0 F0 s β w) {r : Nat} (hr : w0.heap.size ≤ r) (hc : Ctl w r) (x : Obj) :
    SRel w0 F0 s β (w.putObj r x) ∧ (∀ d v, RV w (Fr w0 F0 s β) β d v → RV (w.putObj r x) (Fr w0 F0 s β) β d v) := by
  have hv : ∀ d v, RV w (Fr w0 F0 s β) β d v → RV (w.putObj r x) (Fr w0 F0 s β) β d v := fun d v hd => hd.cells (fun _ _ h => h) fun b o hF ho => ⟨hF, by
    by_cases e : b = r
    · subst e; exact (hc.unseen ho).elim
    · exact World.putObj_heap_other e⟩
  refine ⟨⟨?_, fun i o ho => ?_, h.inj, h.nx, fun b hb => h.up b (by simpa using hb), h.own, h.gl⟩, hv⟩
  · exact ⟨h.below.os, h.below.tape, h.below.output, by simpa using h.below.size, fun k hk => by rw [World.putObj_heap_other (by omega)]; exact h.below.block k hk, h.below.drawn⟩
  · rcases h.obs i o ho with k1 | ⟨b2, c2, cur2, k1, k2, k3, k4, k5, k6, k7⟩
    · exact .inl k1
    · refine .inr ⟨b2, c2, cur2, k1, k2, ?_, k4, k5, k6, fun j dj hj => by
        obtain ⟨y, hy, hr⟩ := k7 j dj hj
        exact ⟨y, hy, hv _ _ hr⟩⟩
      rw [World.putObj_heap_other (fun e => ?_)]
      · exact k3
      · subst e
        rcases blk_is cur2 o.elem with e | ⟨es, clk, e⟩ <;> rw [e] at k3 <;> rcases hc with ⟨r, h⟩ | ⟨ds, h⟩ <;> rw [k3] at h <;> cases h
theorem Ext.putObj {n : Nat} {w0 : World} {X : Nat → Prop} {s s' : Sto} {β β' : Beta} {w w' : World} (h : Ext n w0 X s β w s' β' w') {r : Nat} (hr : w.heap.size ≤ r ∨ X r) (x : Obj) : Ext n w0 X s β w s' β' (w'.putObj r x) :=
  ⟨h.grow, by simpa using h.size, fun b hb hx hu => by
    obtain ⟨k1, k2⟩ := h.fr b hb hx hu
    refine ⟨k1, ?_⟩
    rw [World.putObj_heap_other (fun e => by subst e; rcases hr with hr | hr; exact absurd hb (by omega); exact hx hr)]
    exact k2⟩
theorem Own.putObj {w0 : World} {s : Sto} {β : Beta} {w : World} {b r : Nat} {x : Obj} (h : Own w0 s β w b) : Own w0 s β (w.putObj r x) b := ⟨by simpa using h.1, h.2⟩
theorem Rel.take [Inhabited GlobS] {G : Org} {st : St} {β : Beta} {a : Act} {w : World} {d : Deferred} {ds : List Deferred} (h : Rel G st β a w) (hd : a.defers = d :: ds) :
    ∃ r, d.target = .collected r ∧ w.heap[r]? = some (.deferred (some [])) ∧ Rel G st β { a with defers := ds } (w.putObj r (.deferred none)) := by
  have hdf := h.df
  rw [hd] at hdf
  obtain ⟨r, e, h1, h2, h3, h4⟩ := hdf.all d (List.mem_cons_self ..)
  refine ⟨r, by rw [e], h4, ?_⟩
  obtain ⟨k1, k2⟩ := h.srel.putObj h1.2.1 (.inr ⟨_, h4⟩) (.deferred none)
  refine ⟨k1, h.ext.putObj (.inl h3) _, h.bs, h.nxb, fun t => k2 _ _ (h.tm t), h.size, ⟨fun d' hd' => ?_, (List.pairwise_cons.1 hdf.nd).2, fun h => by have := hdf.rd h; cases this⟩, ?_, ?_⟩
  · obtain ⟨r', e', g1, g2, g3, g4⟩ := hdf.all d' (List.mem_cons_of_mem _ hd')
    refine ⟨r', e', g1.putObj, g2, g3, ?_⟩
    rw [World.putObj_heap_other (fun e2 => (List.pairwise_cons.1 hdf.nd).1 d' hd' (by rw [e, e', e2]))]
    exact g4
  · refine G.hrx _ _ _ _ _ _ _ h.hs fun b x _ hb hx => ⟨hb.putObj, ?_⟩
    rw [World.putObj_heap_other (fun e2 => by rw [e2, h4] at hx; cases hx)]
    exact hx
  · have hh := h.rd
    unfold RdOk at hh ⊢
    split at hh
    · trivial
    · obtain ⟨g1, g2, r', g3⟩ := hh
      refine ⟨g1.putObj, g2, r', ?_⟩
      rw [World.putObj_heap_other (fun e2 => by rw [e2, h4] at g3; cases g3)]
      exact g3
def Tri [Inhabited GlobS] (P : Program) (N : Nat) (Y : YT) (c : Code) (st : St) (Q : DExit → St → Prop) : Prop :=
  ∀ (G : Org) (_ : G.N = N) (_ : YOk P G Y) (β : Beta) (a : Act) (w : World) (R : Exit → Act → World → Prop), Rel G st β a w → (∀ e st' β' a' w', Q e st' → Rel G st' β' a' w' → R e.real a' w') → c.wpIn (Wd G.rd) 0 P R a w
def scalT (P : Program) (t : TypeId) : Bool := match P.underlying t with | some .bool | some (.int _) | some .string => true | _ => false
def hasEff (P : Program) (o : Oper) : Bool :=
  match o.op with
  | .alloc _ | .box .. | .buildSlice .. | .makeSlice .. | .store .. | .makeMap .. | .mapUpdate .. => true
  | .call c => (match c.callee with | .builtin .append | .builtin .clear | .builtin .copy | .builtin .delete => true | .value _ => !scalT P o.type | _ => false)
  | _ => false
def isCallV (o : Oper) : Bool := match o.op with | .call c => (match c.callee with | .value _ => true | _ => false) | _ => false
def opsOk (P : Program) (N : Nat) (ops : Array Oper) (draw : Bool) : Bool :=
  ops.toList.all (fun o => noDefer o && o.dst.all fun t => decide (t < N)) && (!draw || ops.toList.any (hasEff P) || ops.toList.any isCallV || (P.follows .mixedOrders && Region.lexB .any ops))
def codeOk (P : Program) (N : Nat) : Code → Bool
  | .region _ ops draw => opsOk P N ops draw
  | .seq x y => codeOk P N x && codeOk P N y
  | .cond _ x y => codeOk P N x && codeOk P N y
  | .block _ c => codeOk P N c
  | .loop c => codeOk P N c
  | .scope c => codeOk P N c
  | .rangeFunc _ _ x y => codeOk P N x && codeOk P N y
  | _ => true
def dthen (N : St → Prop) (Q : DExit → St → Prop) : DExit → St → Prop
  | .normal, st => N st
  | e, st => Q e st
def dblock (id : Nat) (Q : DExit → St → Prop) : DExit → St → Prop
  | .exit j, st => if j = id then Q .normal st else Q (.exit j) st
  | e, st => Q e st
def Drawn [Inhabited GlobS] (P : Program) (N : Nat) (Y : YT) (id : Nat) (ops : Array Oper) (st : St) (Q : DExit → St → Prop) : Prop :=
  ((P.follows .mixedOrders && Region.lexB .any ops) = true ∧ dops P Y ops true ops.toList st (Q .normal)) ∨ Tri P N Y (.region id ops true) st Q
theorem Drawn.quiet [Inhabited GlobS] {P : Program} {N : Nat} {Y : YT} {id : Nat} {ops : Array Oper} {st : St} {Q : DExit → St → Prop} (h : (P.follows .mixedOrders && Region.lexB .any ops) = true) (k : dops P Y ops true ops.toList st (Q .normal)) : Drawn P N Y id ops st Q := .inl ⟨h, k⟩
theorem Drawn.mark [Inhabited GlobS] {P : Program} {N : Nat} {Y : YT} {id : Nat} {ops : Array Oper} {st : St} {Q : DExit → St → Prop} (h : Drawn P N Y id ops st Q) : Drawn P N Y id ops st Q := h
theorem region_quiet [Inhabited GlobS] {P : Program} {N : Nat} {Y : YT} {id : Nat} {ops : Array Oper} {st : St} {Q : DExit → St → Prop} (hk1 : (ops.toList.all fun o => noDefer o && o.dst.all fun t => decide (t < N)) = true) (hk2 : (P.follows .mixedOrders && Region.lexB .any ops) = true)
    (h2 : dops P Y ops true ops.toList st (Q .normal)) : Tri P N Y (.region id ops true) st Q := by
  intro G hN hY β a w R hr hR
  have hd : ∀ o ∈ ops.toList, (o.dst.all fun t => decide (t < G.N)) = true := fun o ho => by
    rw [hN]; exact (Bool.and_eq_true_iff.1 (List.all_eq_true.1 hk1 o ho)).2
  have hnd : ∀ o ∈ ops.toList, noDefer o = true := fun o ho => (Bool.and_eq_true_iff.1 (List.all_eq_true.1 hk1 o ho)).1
  obtain ⟨h3, h4⟩ := Bool.and_eq_true_iff.1 hk2
  have hb : BelowD w.heap.size w w.drew := ⟨rfl, rfl, rfl, Nat.le_refl _, fun _ _ => rfl, fun _ => Nat.le_succ _⟩
  have hr' := hr.below hb
  exact wpIn_quiet hnd (C := fun w' => BelowD w.drew.heap.size w.drew w') h3 h4 (.refl _ _) (dops_quiet (w := w.drew) _ hd h2 hr' fun st' a' hQ hr'' w' hw' => hR _ _ _ _ _ hQ (hr''.below hw'))
noncomputable def dcode [Inhabited GlobS] (P : Program) (N : Nat) (Y : YT) (c : Code) : St → (DExit → St → Prop) → Prop :=
  Code.rec (motive := fun _ => St → (DExit → St → Prop) → Prop)
    (fun st Q => Q .normal st)
    (fun id ops draw st Q => match draw && ops.toList.any (hasEff P) with
      | true => Tri P N Y (.region id ops draw) st Q
      | false => (match draw && ops.toList.any isCallV with
        | true => Drawn P N Y id ops st Q
        | false => dops P Y ops draw ops.toList st (Q .normal)))
    (fun _ _ x y st Q => x st (dthen (fun st' => y st' Q) Q))
    (fun c _ _ x y st Q => evg true (ev st.tm c) fun
      | .v (.bool b) => (b = true → x st Q) ∧ (b = false → y st Q)
      | _ => False)
    (fun id _ c st Q => c st (dblock id Q))
    (fun c _ st Q => Tri P N Y (.loop c) st Q)
    (fun f ps x y _ _ st Q => Tri P N Y (.rangeFunc f ps x y) st Q)
    (fun id st Q => Q (.exit id) st)
    (fun c _ st Q => Tri P N Y (.scope c) st Q)
    (fun _ st Q => Q .normal st)
    (fun l st Q => Q (.goto l) st)
    (fun st Q => Q .ret st)
    (fun why st Q => Tri P N Y (.refuse why) st Q) c
theorem dcode_sound [Inhabited GlobS] {P : Program} {N : Nat} {Y : YT} : (c : Code) → codeOk P N c = true → {st : St} → {Q : DExit → St → Prop} → dcode P N Y c st Q → Tri P N Y c st Q
  | .skip, _, st, Q, h => fun G hN hY β a w R hr hR => wpIn_skip (hR _ _ _ _ _ h hr)
  | .region id ops draw, hk, st, Q, h0 => by
    have h2 : (match draw && ops.toList.any (hasEff P) with
      | true => Tri P N Y (.region id ops draw) st Q
      | false => (match draw && ops.toList.any isCallV with
        | true => Drawn P N Y id ops st Q
        | false => dops P Y ops draw ops.toList st (Q .normal))) := h0
    clear h0
    simp only [codeOk, opsOk, Bool.and_eq_true] at hk
    obtain ⟨hk1, hk2⟩ := hk
    split at h2
    · exact h2
    · rename_i he
      split at h2
      · rename_i he2
        have hdr : draw = true := by revert he2; cases draw <;> simp
        subst hdr
        rcases h2 with ⟨h3, h2⟩ | h2
        · exact region_quiet hk1 h3 h2
        · exact h2
      · rename_i he2
        intro G hN hY β a w R hr hR
        have hd : ∀ o ∈ ops.toList, (o.dst.all fun t => decide (t < G.N)) = true := fun o ho => by
          rw [hN]; exact (Bool.and_eq_true_iff.1 (List.all_eq_true.1 hk1 o ho)).2
        have hnd : ∀ o ∈ ops.toList, noDefer o = true := fun o ho => (Bool.and_eq_true_iff.1 (List.all_eq_true.1 hk1 o ho)).1
        cases draw with
        | false => exact wpIn_list (dops_sound hY _ hnd hd h2 hr fun st' β' a' w' hQ hr' => hR _ _ _ _ _ hQ hr')
        | true =>
          simp only [Bool.true_and] at he he2
          rw [he, he2] at hk2
          simp only [Bool.not_true, Bool.false_or] at hk2
          exact region_quiet (id := id) hk1 hk2 h2 G hN hY β a w R hr hR
  | .seq x y, hk, st, Q, h => fun G hN hY β a w R hr hR => wpIn_seq (dcode_sound x (Bool.and_eq_true_iff.1 hk).1 h G hN hY β a w _ hr fun e st' β' a' w' hQ hr' => by
    cases e with
    | normal => exact dcode_sound y (Bool.and_eq_true_iff.1 hk).2 hQ G hN hY β' a' w' R hr' hR
    | exit id => exact hR _ _ _ _ _ hQ hr'
    | goto l => exact hR _ _ _ _ _ hQ hr'
    | ret => exact hR _ _ _ _ _ hQ hr')
  | .cond c x y, hk, st, Q, h => fun G hN hY β a w R hr hR => by
    obtain ⟨d, h, hd⟩ := evg_sound _ h
    split at h
    · rename_i b
      have e := rv_v (hd rfl _ _ _ _ (hr.ev c))
      refine wpIn_cond e ?_
      cases b with
      | true => exact dcode_sound x (Bool.and_eq_true_iff.1 hk).1 (h.1 rfl) G hN hY β a w R hr hR
      | false => exact dcode_sound y (Bool.and_eq_true_iff.1 hk).2 (h.2 rfl) G hN hY β a w R hr hR
    · exact h.elim
  | .block id c, hk, st, Q, h => fun G hN hY β a w R hr hR => wpIn_block (dcode_sound c hk h G hN hY β a w _ hr fun e st' β' a' w' hQ hr' => by
    cases e with
    | normal => exact hR .normal _ _ _ _ hQ hr'
    | exit j =>
      simp only [DExit.real, Exit.inBlock]
      simp only [dblock] at hQ
      split
      · rename_i e; rw [if_pos e] at hQ; exact hR .normal _ _ _ _ hQ hr'
      · rename_i e; rw [if_neg e] at hQ; exact hR (.exit j) _ _ _ _ hQ hr'
    | goto l => exact hR (.goto l) _ _ _ _ hQ hr'
    | ret => exact hR .ret _ _ _ _ hQ hr')
  | .exit id, _, st, Q, h => fun G hN hY β a w R hr hR => wpIn_exit (hR (.exit id) _ _ _ _ h hr)
  | .goto l, _, st, Q, h => fun G hN hY β a w R hr hR => wpIn_goto (hR (.goto l) _ _ _ _ h hr)
  | .label l, _, st, Q, h => fun G hN hY β a w R hr hR => wpIn_label (hR _ _ _ _ _ h hr)
  | .ret, _, st, Q, h => fun G hN hY β a w R hr hR => wpIn_ret (hR .ret _ _ _ _ h hr)
  | .loop b, _, st, Q, h => h
  | .rangeFunc .., _, st, Q, h => h
  | .scope b, _, st, Q, h => h
  | .refuse _, _, st, Q, h => h
def entryTm : Nat → List DV → (Nat → DV) → (Nat → DV)
  | _, [], f => f
  | k, d :: ds, f => entryTm (k + 1) ds (upd f k d)
theorem entryTm_get (ds : List DV) : ∀ (k : Nat) (f : Nat → DV) (t : Nat), entryTm k ds f t = if h : k ≤ t ∧ t - k < ds.length then ds[t - k]'h.2 else f t := by
  induction ds with
  | nil => intro k f t; simp [entryTm]
  | cons d ds ih =>
    intro k f t
    rw [entryTm, ih]
    by_cases h1 : t = k
    · subst h1
      rw [dif_neg (by omega)]
      simp
    · by_cases h2 : k ≤ t ∧ t - k < ds.length + 1
      · have h3 : k + 1 ≤ t ∧ t - (k + 1) < ds.length := by omega
        rw [dif_pos h3, dif_pos (by simpa using h2)]
        have : t - k = (t - (k + 1)) + 1 := by omega
        simp [this]
      · have h3 : ¬ (k + 1 ≤ t ∧ t - (k + 1) < ds.length) := by omega
        rw [dif_neg h3, dif_neg (by simpa using h2), upd_ne _ _ _ h1]
noncomputable def dress (P : Program) (rs : List ResultVar) (st : St) : (List DV → Prop) → Prop :=
  List.rec (motive := fun _ => (List DV → Prop) → Prop) (fun K => K [])
    (fun r _ next K => match r with
      | .tmp t => next fun ds => K (st.tm t :: ds)
      | .cell t T => (match st.tm t with
        | .ref id off => (match st.s.ob id with | some o => cellsO o.elem (dload P T o.cells off true fun d => next fun ds => K (d :: ds)) | none => False)
        | _ => False)) rs
def dout (K : DV → Sto → Prop) (s : Sto) : List DV → Prop
  | [d] => K d s
  | ds => K (.tup ds) s
noncomputable def dend (P : Program) (rs : List ResultVar) (K : DV → Sto → Prop) : DExit → St → Prop
  | .normal, st | .ret, st => dress P rs st (dout K st.s)
  | _, _ => False
def resF (tmps : Array Value) : ResultVar → Sem Value
  | .tmp t => pure (tmps.getD t undef)
  | .cell b t => do loadVar t (← asAddr (tmps.getD b undef))
theorem results_eq (fn : Func) (tmps : Array Value) : results fn tmps = (fn.results.mapM (resF tmps)) >>= fun vs => pure (if h : vs.size = 1 then vs[0] else .tuple vs) := rfl
theorem run_results [Inhabited GlobS] {P : Program} {rs : List ResultVar} {G : Org} {st : St} {β : Beta} {a : Act} {w : World} (hr : Rel G st β a w) : ∀ {K : List DV → Prop}, dress P rs st K →
    ∃ ds xs, K ds ∧ Pw w (Fr G.w0 G.F0 st.s β) β ds xs ∧ (rs.mapM (resF a.tmps)).run P w = .ok xs w := by
  induction rs with
  | nil => intro K h; exact ⟨[], [], h, .nil, by simp⟩
  | cons r rs ih =>
    intro K h
    cases r with
    | tmp t =>
      obtain ⟨ds, xs, h1, h2, h3⟩ := ih h
      exact ⟨_, _, h1, h2.cons (hr.tm t), by simp only [List.mapM_cons, resF, Sem.run_bind, Sem.run_pure, Result.andThen_ok, h3]⟩
    | cell t T =>
      simp only [dress] at h
      split at h
      · rename_i id off htm
        split at h
        · rename_i o hob
          obtain ⟨hm, h⟩ := cellsO_is h
          obtain ⟨d, h1, h2⟩ := dload_sound h
          obtain ⟨ds, xs, h3, h4, h5⟩ := ih h1
          have ht := hr.tm t
          rw [htm] at ht
          obtain ⟨b, c, hb, he⟩ := rv_ref ht
          rcases hr.srel.obs id o hob with g | ⟨b', c', cur, g1, g2, g3, g4, g5, g6, g7⟩
          · rw [g.1] at hb; cases hb
          rw [g1] at hb
          simp only [Option.some.injEq, Prod.mk.injEq] at hb
          obtain ⟨rfl, rfl⟩ := hb
          rw [blk_cells hm] at g3
          obtain ⟨v, hv, hrun⟩ := h2 rfl w (Fr G.w0 G.F0 st.s β) β b' 0 cur.toList (fun j dj hj => by
            obtain ⟨y, hy, hry⟩ := g7 j dj hj
            exact ⟨y, by simpa using hy, by simpa [World.cell?, g3] using hy, hry⟩)
          have := hrun w (fun _ => rfl)
          simp only [Nat.zero_add] at this
          have hA : (asAddr (a.tmps.getD t undef)).run P w = .ok ⟨b', off, none⟩ w := by rw [he]; rfl
          exact ⟨_, _, h3, h4.cons hv, by simp only [List.mapM_cons, resF, Sem.run_bind, hA, Sem.run_pure, Result.andThen_ok, this, h5]⟩
        · exact h.elim
      · exact h.elim
theorem run_out [Inhabited GlobS] {P : Program} {fn : Func} {G : Org} {st : St} {β : Beta} {a : Act} {w : World} (hr : Rel G st β a w) {K : DV → Sto → Prop} (h : dress P fn.results.toList st (dout K st.s)) :
    ∃ v d, (results fn a.tmps).run P w = .ok v w ∧ K d st.s ∧ RV w (Fr G.w0 G.F0 st.s β) β d v := by
  obtain ⟨ds, xs, h1, h2, h3⟩ := run_results hr h
  have hrun : (results fn a.tmps).run P w = .ok (if h : xs.toArray.size = 1 then xs.toArray[0] else .tuple xs.toArray) w := by
    have : (fn.results.mapM (resF a.tmps)).run P w = .ok xs.toArray w := by
      rw [Array.mapM_eq_mapM_toList, Sem.run_map, h3]
      rfl
    rw [results_eq, Sem.run_bind, this]
    rfl
  match ds, xs, h2, h1, hrun with
  | [d], [x], h2, h1, hrun => exact ⟨_, d, hrun, h1, by simpa using h2.2 0 d x rfl rfl⟩
  | [], xs, h2, h1, hrun =>
    have : xs = [] := List.length_eq_zero_iff.1 h2.1.symm
    subst this
    exact ⟨_, .tup [], hrun, h1, .tup [] [] rfl h2.2⟩
  | d :: d' :: ds, xs, h2, h1, hrun =>
    refine ⟨_, .tup (d :: d' :: ds), hrun, h1, ?_⟩
    have : xs.toArray.size ≠ 1 := by have := h2.1; simp at this ⊢; omega
    rw [dif_neg this]
    exact .tup _ _ h2.1 h2.2
theorem entry_rv {w : World} {F : Nat → Prop} {β : Beta} {args : List DV} {vals : List Value} (hx : Pw w F β args vals) (N : Nat) (t : Nat) :
    RV w F β (entryTm 0 args (fun _ => .dead) t) ((vals.toArray ++ Array.replicate (N - vals.toArray.size) undef).getD t undef) := by
  have hvl : vals.length = args.length := hx.1.symm
  simp only [entryTm_get, Nat.zero_le, Nat.sub_zero, true_and]
  split
  · rename_i ht
    have ht' : t < vals.length := by omega
    rw [Array.getD_eq_getD_getElem?, Array.getElem?_append_left (by simpa using ht')]
    simp only [List.getElem?_toArray, List.getElem?_eq_getElem ht', Option.getD_some]
    exact hx.2 t _ _ (List.getElem?_eq_getElem ht) (List.getElem?_eq_getElem ht')
  · exact .dead _
theorem leaves_marks [Inhabited GlobS] {P : Program} {fn : Func} {F : Fence} {G : Org} {st : St} {β : Beta} {R : Ending → World → Prop} (ds : List Deferred) : ∀ {a : Act} {w : World}, a.defers = ds → Rel G st β a w →
    (∀ w', Rel G st β { a with defers := [] } w' → ∃ v, (results fn a.tmps).run P w' = .ok v w' ∧ R (.returned v) w') → LeavesInM F 0 P fn a.tmps R ds .returning w := by
  induction ds with
  | nil => intro a w hd hr h; exact h w (by rw [← hd]; exact hr)
  | cons d ds ih =>
    intro a w hd hr h
    obtain ⟨r, h1, h2, h3⟩ := hr.take hd
    refine ⟨by simp, .inl ⟨r, _, h1, run_takeDeferred h2, ?_⟩⟩
    exact ih (a := { a with defers := ds }) rfl h3 h
theorem calls_body [Inhabited GlobS] {P : Program} {f : FuncId} {fn : Func} {c : Code} {Y : YT} {G : Org} {st0 : St} {β : Beta} {w : World} {vals : List Value} {Q : DExit → St → Prop} {R : Ending → World → Prop}
    (hf : P.funcs[f]? = some fn) (hb : fn.body = some c) (hk : codeOk P fn.ntmps c = true) (hN : G.N = fn.ntmps) (hrd : G.rd = none) (hY : YOk P G Y)
    (hr : Rel G st0 β { tmps := vals.toArray ++ Array.replicate (fn.ntmps - vals.toArray.size) undef, defers := [] } w)
    (h : dcode P fn.ntmps Y c st0 Q) (hq : ∀ e st, Q e st → e = .normal ∨ e = .ret)
    (hR : ∀ e st' β' a' w', Q e st' → Rel G st' β' a' w' → ∃ v, (results fn a'.tmps).run P w' = .ok v w' ∧ R (.returned v) w') : Calls P f vals.toArray w R := by
  refine callsOfWd (r := none) (n := 0) (callsIn_of_wp_marks hf hb trivial ?_)
  have := dcode_sound c hk h G hN hY β _ w (bodyPostM (Wd none) 0 P fn R) hr fun e st' β' a' w' hQ hr' => by
    have := leaves_marks (F := Wd none) (fn := fn) (R := R) a'.defers rfl hr' (fun w2 h2 => hR e st' β' { a' with defers := [] } w2 hQ h2)
    rcases hq _ _ hQ with rfl | rfl
    · exact this
    · exact this
  rw [hrd] at this
  exact this
theorem SCall.run [Inhabited GlobS] {P : Program} {f : FuncId} {fn : Func} {c : Code} {args : List DV} {s : Sto} {K : DV → Sto → Prop} (hf : P.funcs[f]? = some fn) (hb : fn.body = some c) (hn : args.length ≤ fn.ntmps) (hk : codeOk P fn.ntmps c = true)
    (h : dcode P fn.ntmps noY c ⟨⟨s.nx, []⟩, entryTm 0 args (fun _ => .dead), s⟩ (dend P fn.results.toList K)) : SCall P f args s K := by
  intro w0 F0 β w vals hs hx
  let G : Org := ⟨fn.ntmps, w0, F0, s.nx, s, β, w, nX, fun _ _ h => h, fun _ h => h.elim, fun _ _ _ c => c = [], fun _ _ _ _ _ _ _ h _ => h, none⟩
  have hvl : vals.length = args.length := hx.1.symm
  have hr : Rel G ⟨⟨s.nx, []⟩, entryTm 0 args (fun _ => .dead), s⟩ β { tmps := vals.toArray ++ Array.replicate (fn.ntmps - vals.toArray.size) undef, defers := [] } w :=
    ⟨hs, .refl, Nat.le_refl _, Nat.le_refl _, entry_rv hx _, by simp [G]; omega, ⟨fun d hd => by simp at hd, .nil, fun _ => rfl⟩, rfl, trivial⟩
  refine calls_body hf hb hk (G := G) rfl rfl noY_ok hr h (fun e st hQ => ?_) fun e st' β' a' w' hQ hr' => ?_
  · cases e with
    | normal => exact .inl rfl
    | ret => exact .inr rfl
    | exit id => exact hQ.elim
    | goto l => exact hQ.elim
  · have hQ : dress P fn.results.toList st' (dout K st'.s) := by
      cases e with
      | normal => exact hQ
      | ret => exact hQ
      | exit id => exact hQ.elim
      | goto l => exact hQ.elim
    obtain ⟨v, d, h1, h2, h3⟩ := run_out hr' hQ
    exact ⟨v, h1, v, d, st'.s, β', rfl, h2, hr'.srel, hr'.ext, hr'.nxb, h3⟩
def Sto.empty : Sto := ⟨fun _ => none, 0⟩
theorem SRel.empty [Inhabited GlobS] (w : World) (F : Nat → Prop) (hg : Gok w) (hF : ∀ b, w.heap.size ≤ b → F b) : SRel w F .empty (fun _ => none) w :=
  ⟨.refl _ _, fun i o h => (by cases h), fun i j b c c' h => (by cases h), fun _ _ => ⟨rfl, rfl⟩, hF, fun i b c h => (by cases h), hg⟩
theorem DFun.of_scall [Inhabited GlobS] {P : Program} {f : FuncId} {args : List DV} {Q : DV → Sto → Prop} (h : SCall P f args .empty Q) : DFun P f args Q := fun w F vals hg hF hx =>
  (h w F (fun _ => none) w vals (.empty w F hg hF) ⟨hx.1, fun i d y h1 h2 => (hx.2 i d y h1 h2).mono (fun _ _ h => h) (fun _ hb hF => ⟨⟨hF, .inl hb⟩, rfl⟩)⟩).mono
    fun _ _ ⟨v, r, s', β', he, hQ, k1, _, _, k4⟩ => ⟨v, r, s', β', he, hQ, k1, k4⟩
theorem DFun.run [Inhabited GlobS] {P : Program} {f : FuncId} {fn : Func} {c : Code} {args : List DV} {Q : DV → Sto → Prop} (hf : P.funcs[f]? = some fn) (hb : fn.body = some c) (hn : args.length ≤ fn.ntmps) (hk : codeOk P fn.ntmps c = true)
    (h : dcode P fn.ntmps noY c ⟨0, entryTm 0 args (fun _ => .dead), .empty⟩ (dend P fn.results.toList Q)) : DFun P f args Q :=
  .of_scall (.run hf hb hn hk h)
def noId0 : DV → Bool
  | .v _ | .lst .. | .lref .. | .mp _ | .dead => true
  | _ => false
def noId1 : DV → Bool
  | .v _ | .lst .. | .lref .. | .mp _ | .dead => true
  | .clo _ ds es => ds.all noId0 && es.all noId0
  | .ifc _ .dead => true
  | _ => false
def noId2 : DV → Bool
  | .agg cs => cs.all noId1
  | d => noId1 d
def noIds : DV → Bool
  | .agg cs => cs.all noId1
  | .tup cs => cs.all noId2
  | d => noId1 d
theorem rv_noId0 {w w' : World} {F F' : Nat → Prop} {β β' : Beta} {d : DV} {x : Value} (h : RV w F β d x) (hd : noId0 d = true) (hw : ∀ b, b < w.heap.size → F b → F' b ∧ w'.heap[b]? = w.heap[b]?) : RV w' F' β' d x := by
  cases h with
  | data h => exact .data (h.mono hw)
  | lref sz es i off b o cap h hi => exact .lref sz es i off b o cap (h.mono hw) hi
  | dead => exact .dead _
  | mp es b clk h hF =>
    obtain ⟨h1, h2⟩ := hw b (Array.getElem?_eq_some_iff.1 h).1 hF
    exact .mp es b clk (h2.trans h) h1
  | _ => cases hd
theorem rv_noId1 {w w' : World} {F F' : Nat → Prop} {β β' : Beta} {d : DV} {x : Value} (h : RV w F β d x) (hd : noId1 d = true) (hw : ∀ b, b < w.heap.size → F b → F' b ∧ w'.heap[b]? = w.heap[b]?) : RV w' F' β' d x := by
  cases h with
  | data h => exact .data (h.mono hw)
  | lref sz es i off b o cap h hi => exact .lref sz es i off b o cap (h.mono hw) hi
  | dead => exact .dead _
  | mp es b clk h hF =>
    obtain ⟨h1, h2⟩ := hw b (Array.getElem?_eq_some_iff.1 h).1 hF
    exact .mp es b clk (h2.trans h) h1
  | clo fn ds es xs ys hl hl' h h' =>
    have hd : (ds.all noId0 && es.all noId0) = true := hd
    rw [Bool.and_eq_true] at hd
    exact .clo _ ds es xs ys hl hl' (fun i d x h1 h2 => rv_noId0 (h i d x h1 h2) (List.all_eq_true.1 hd.1 d (List.mem_of_getElem? h1)) hw) (fun i d x h1 h2 => rv_noId0 (h' i d x h1 h2) (List.all_eq_true.1 hd.2 d (List.mem_of_getElem? h1)) hw)
  | ifc t d x h =>
    cases d with
    | dead => exact .ifc _ _ _ (.dead _)
    | _ => cases hd
  | _ => cases hd
theorem rv_noId2 {w w' : World} {F F' : Nat → Prop} {β β' : Beta} {d : DV} {x : Value} (h : RV w F β d x) (hd : noId2 d = true) (hw : ∀ b, b < w.heap.size → F b → F' b ∧ w'.heap[b]? = w.heap[b]?) : RV w' F' β' d x := by
  unfold noId2 at hd
  split at hd
  · obtain ⟨xs, rfl, hl, hp⟩ := rv_agg h
    exact .agg _ _ hl fun i d x h1 h2 => rv_noId1 (hp i d x h1 h2) (List.all_eq_true.1 hd d (List.mem_of_getElem? h1)) hw
  · exact rv_noId1 h hd hw
theorem rv_noIds {w w' : World} {F F' : Nat → Prop} {β β' : Beta} {d : DV} {x : Value} (h : RV w F β d x) (hd : noIds d = true) (hw : ∀ b, b < w.heap.size → F b → F' b ∧ w'.heap[b]? = w.heap[b]?) : RV w' F' β' d x := by
  unfold noIds at hd
  split at hd
  · obtain ⟨xs, rfl, hl, hp⟩ := rv_agg h
    exact .agg _ _ hl fun i d x h1 h2 => rv_noId1 (hp i d x h1 h2) (List.all_eq_true.1 hd d (List.mem_of_getElem? h1)) hw
  · obtain ⟨xs, rfl, hl, hp⟩ := rv_tup h
    exact .tup _ _ hl fun i d x h1 h2 => rv_noId2 (hp i d x h1 h2) (List.all_eq_true.1 hd d (List.mem_of_getElem? h1)) hw
  · exact rv_noId1 h hd hw
theorem SRel.frUp [Inhabited GlobS] {w0 w : World} {F0 : Nat → Prop} {s : Sto} {β : Beta} (hs : SRel w0 F0 s β w) : ∀ b, w.heap.size ≤ b → Fr w0 F0 s β b := fun b hb => ⟨hs.up b hb, .inr ⟨Nat.le_trans hs.below.size hb, fun i c hi hβ => by
  obtain ⟨o, ho⟩ := Option.isSome_iff_exists.1 hi
  rcases hs.obs i o ho with g | ⟨b', c', cur, g1, g2, g3, _⟩
  · rw [g.1] at hβ; cases hβ
  · rw [g1] at hβ
    simp only [Option.some.injEq, Prod.mk.injEq] at hβ
    have := (Array.getElem?_eq_some_iff.1 g3).1
    omega⟩⟩
theorem SCall.data [Inhabited GlobS] {P : Program} {f : FuncId} {args : List DV} {s : Sto} {K : DV → Sto → Prop} {r : DV} (h : DPure P f args r) (hargs : args.all noIds = true) (hr : noIds r = true) (hK : K r s) : SCall P f args s K := by
  intro w0 F0 β w vals hs hx
  refine (h w (Fr w0 F0 s β) vals hs.gok hs.frUp ⟨hx.1, fun i d y h1 h2 => rv_noIds (hx.2 i d y h1 h2) (List.all_eq_true.1 hargs d (List.mem_of_getElem? h1)) (fun b _ hF => ⟨hF, rfl⟩)⟩).mono fun e w' ⟨v, r', s', β', he, hq, hs', hv⟩ => ?_
  subst hq
  obtain ⟨k1, k2⟩ := hs.below' hs'.below
  refine ⟨v, _, s, β, he, hK, k1, k2 _, Nat.le_refl _, rv_noIds hv hr fun b hb hF => ⟨?_, rfl⟩⟩
  exact hF.1
end Go.Dl

namespace Go.Dl
open Go Go.RowKit
theorem dvb {b b' : Bool} (h : b = b') : DV.v (.bool b) = DV.v (.bool b') := by rw [h]
theorem DFun.body [Inhabited GlobS] {P : Program} {f : FuncId} {fn : Func} {c : Code} {args : List DV} {Q : DV → Sto → Prop} (hf : P.funcs[f]? = some fn) (hb : fn.body = some c)
    (hk : (decide (args.length ≤ fn.ntmps) && codeOk P fn.ntmps c) = true)
    (h : dcode P fn.ntmps noY c ⟨0, entryTm 0 args (fun _ => .dead), .empty⟩ (dend P fn.results.toList Q)) : DFun P f args Q := by
  simp only [Bool.and_eq_true, decide_eq_true_eq] at hk
  exact .run hf hb hk.1 hk.2 h
theorem PCall.mk [Inhabited GlobS] {P : Program} {f : FuncId} {args args' : List DV} {s : Sto} {g : Bool} {K : DV → Prop} {r : DV} (h : DPure P f args' r) (hl : args.mapM (lend s) = some args') (hr : scal r = true) (hK : K r) : PCall P f args s g K :=
  ⟨r, fun _ => ⟨hr, fun _ _ _ _ _ hs hx => pcall_sound hr hl h hs hx⟩, hK⟩
inductive CK where
  | int | bool | str
  deriving DecidableEq
def eqFieldsK (P : Program) (r : TypeId → Option (List CK)) : List Field → Nat → Option (List CK)
  | [], _ => some []
  | f :: fs, off =>
    if f.name = "_" ∨ f.offset ≠ off then none else
    match r f.type, tyLay P f.type with
    | some ks, some l => if l.getD 1 = ks.length ∧ ks.length ≠ 0 then (eqFieldsK P r fs (off + ks.length)).map (ks ++ ·) else none
    | _, _ => none
def eqKinds (P : Program) : Nat → TypeId → Option (List CK)
  | 0, _ => none
  | d + 1, t => match P.underlying t with
    | some (.int _) => some [.int]
    | some .bool => some [.bool]
    | some .string => some [.str]
    | some (.struct fs) => if P.stoodInHeld t = true then none else eqFieldsK P (eqKinds P d) fs.toList 0
    | _ => none
def Typed : List CK → List Value → List Value → Prop
  | [], [], [] => True
  | .int :: ks, .int k _ :: xs, .int k' _ :: ys => k = k' ∧ Typed ks xs ys
  | .bool :: ks, .bool _ :: xs, .bool _ :: ys => Typed ks xs ys
  | .str :: ks, .string _ :: xs, .string _ :: ys => Typed ks xs ys
  | _, _, _ => False
def cellEqV : Value → Value → Bool
  | .int _ a, .int _ b => a == b
  | .bool a, .bool b => a == b
  | .string a, .string b => a == b
  | _, _ => true
def cellsEqV : List Value → List Value → Bool
  | x :: xs, y :: ys => cellEqV x y && cellsEqV xs ys
  | _, _ => true
theorem Typed.split (ks : List CK) : ∀ {ks' : List CK} {xs ys : List Value}, Typed (ks ++ ks') xs ys →
    Typed ks (xs.take ks.length) (ys.take ks.length) ∧ Typed ks' (xs.drop ks.length) (ys.drop ks.length) ∧
      cellsEqV xs ys = (cellsEqV (xs.take ks.length) (ys.take ks.length) && cellsEqV (xs.drop ks.length) (ys.drop ks.length)) ∧ ks.length ≤ xs.length ∧ ks.length ≤ ys.length := by
  induction ks with
  | nil => intro ks' xs ys h; exact ⟨by simp [Typed], by simpa using h, by simp [cellsEqV], by simp, by simp⟩
  | cons c ks ih =>
    intro ks' xs ys h
    cases xs with
    | nil => cases c <;> exact h.elim
    | cons x xs =>
      cases ys with
      | nil => cases c <;> cases x <;> exact h.elim
      | cons y ys =>
        cases c <;> cases x <;> first | exact h.elim | skip
        all_goals cases y <;> first | exact h.elim | skip
        case int k a k' b =>
          obtain ⟨h1, h2⟩ := h
          obtain ⟨i1, i2, i3, i4, i5⟩ := ih h2
          exact ⟨⟨h1, i1⟩, i2, by simp only [cellsEqV, List.length_cons, List.take_succ_cons, List.drop_succ_cons, i3, Bool.and_assoc], by simp only [List.length_cons]; omega, by simp only [List.length_cons]; omega⟩
        all_goals
          obtain ⟨i1, i2, i3, i4, i5⟩ := ih h
          exact ⟨i1, i2, by simp only [cellsEqV, List.length_cons, List.take_succ_cons, List.drop_succ_cons, i3, Bool.and_assoc], by simp only [List.length_cons]; omega, by simp only [List.length_cons]; omega⟩
theorem Typed.len (ks : List CK) : ∀ {xs ys : List Value}, Typed ks xs ys → xs.length = ks.length ∧ ys.length = ks.length := by
  intro xs ys h
  have h' : Typed (ks ++ []) xs ys := by simpa using h
  obtain ⟨_, h2, _, h4, h5⟩ := h'.split ks
  have : xs.drop ks.length = [] ∧ ys.drop ks.length = [] := by
    generalize xs.drop ks.length = X at h2
    generalize ys.drop ks.length = Y at h2
    cases X <;> cases Y <;> first | exact ⟨rfl, rfl⟩ | exact h2.elim
  simp only [List.drop_eq_nil_iff] at this
  omega
theorem Typed.one {c : CK} {xs ys : List Value} (h : Typed [c] xs ys) : ∃ x y, xs = [x] ∧ ys = [y] := by
  obtain ⟨h1, h2⟩ := h.len
  match xs, ys, h1, h2 with
  | [x], [y], _, _ => exact ⟨x, y, rfl, rfl⟩
theorem tyLay_struct {P : Program} {t : TypeId} {fs : Array Field} {l : Option Nat} (hu : P.underlying t = some (.struct fs)) (hl : tyLay P t = some l) : ∃ n, l = some n := by
  unfold tyLay at hl
  rw [hu] at hl
  cases hi : P.info? t with
  | none => simp [hi] at hl
  | some i => simp [hi] at hl; exact ⟨_, hl.symm⟩
def fval (l : Option Nat) (xs : List Value) : Value := match l with | some _ => .agg xs.toArray | none => xs.getD 0 undef
theorem part_run {P : Program} {t : TypeId} {l : Option Nat} (h : tyLay P t = some l) (xs : List Value) (off : Nat) (hl : off + l.getD 1 ≤ xs.length) (w : World) :
    (part t xs.toArray off).run P w = .ok (fval l ((xs.drop off).take (l.getD 1))) w := by
  unfold tyLay at h
  split at h
  · rename_i i h1 h2
    cases h
    simp only [Option.getD_some] at hl ⊢
    have e : xs.toArray.extract off (off + i.size) = ((xs.drop off).take i.size).toArray := by simp
    simp only [part, isAgg, Sem.run_bind, run_underlying h1, Result.andThen_ok, Sem.run_pure, if_true, run_sizeOf h2, e]
    rfl
  · rename_i i h1 h2
    cases h
    simp only [Option.getD_some] at hl ⊢
    have e : xs.toArray.extract off (off + i.size) = ((xs.drop off).take i.size).toArray := by simp
    simp only [part, isAgg, Sem.run_bind, run_underlying h1, Result.andThen_ok, Sem.run_pure, if_true, run_sizeOf h2, e]
    rfl
  · rename_i d i h1 h2 h3 h4
    cases h
    simp only [Option.getD_none] at hl ⊢
    have hag : (isAgg t).run P w = .ok false w := by
      unfold isAgg
      simp only [Sem.run_bind, run_underlying h3, Result.andThen_ok]
      rfl
    have e : xs.toArray[off]? = some xs[off] := by rw [List.getElem?_toArray]; exact List.getElem?_eq_getElem (by omega)
    have e2 : fval none ((xs.drop off).take 1) = xs[off] := by
      unfold fval
      simp [List.getD_eq_getElem?_getD, List.getElem?_eq_getElem (show off < xs.length by omega)]
    simp only [part, Sem.run_bind, hag, Result.andThen_ok, Bool.false_eq_true, if_false, e, Sem.run_pure, e2]
  · cases h
theorem eqFields_run {P : Program} {D : Nat} {r : TypeId → Option (List CK)} (hr : ∀ t ks l, r t = some ks → tyLay P t = some l → ∀ xs ys w, Typed ks xs ys → (Op.equalIn D t (fval l xs) (fval l ys)).run P w = .ok (cellsEqV xs ys) w)
    (xs ys : List Value) (w : World) (fs : List Field) : ∀ (off : Nat) (ks : List CK), eqFieldsK P r fs off = some ks → Typed ks (xs.drop off) (ys.drop off) →
      (Op.eqFields D xs.toArray ys.toArray fs).run P w = .ok (cellsEqV (xs.drop off) (ys.drop off)) w := by
  induction fs with
  | nil =>
    intro off ks h ht
    simp only [eqFieldsK, Option.some.injEq] at h
    subst h
    generalize xs.drop off = X at *
    generalize ys.drop off = Y at *
    cases X with
    | nil => simp [Op.eqFields, cellsEqV]
    | cons => cases Y <;> exact ht.elim
  | cons f fs ih =>
    intro off ks h ht
    simp only [eqFieldsK] at h
    split at h
    · cases h
    · rename_i hc
      split at h
      · rename_i ks1 l h1 h2
        split at h
        · rename_i hl'
          obtain ⟨hl, hne0⟩ := hl'
          obtain ⟨ks2, h3, rfl⟩ := Option.map_eq_some_iff.1 h
          have hname : f.name ≠ "_" := fun e => hc (.inl e)
          have hoff : f.offset = off := by
            by_cases e : f.offset = off
            · exact e
            · exact absurd (.inr e) hc
          obtain ⟨t1, t2, t3, t4, t5⟩ := ht.split ks1
          simp only [List.length_drop] at t4 t5
          have p1 := part_run h2 xs off (by rw [hl]; omega) w
          have p2 := part_run h2 ys off (by rw [hl]; omega) w
          rw [hl] at p1 p2
          have q := hr f.type ks1 l h1 h2 _ _ w t1
          simp only [List.drop_drop] at t2 t3
          have ih' := ih (off + ks1.length) ks2 h3 t2
          rw [t3]
          simp only [Op.eqFields, if_pos hname, hoff, Sem.run_bind, p1, p2, q, Result.andThen_ok, Sem.run_ite, Sem.run_pure]
          cases cellsEqV ((xs.drop off).take ks1.length) ((ys.drop off).take ks1.length) with
          | true => simp [ih']
          | false => simp
        · cases h
      · cases h
theorem equalIn_run {P : Program} (d : Nat) : ∀ (t : TypeId) (ks : List CK) (l : Option Nat), eqKinds P d t = some ks → tyLay P t = some l → ∀ (e : Nat) (xs ys : List Value) (w : World), Typed ks xs ys →
    (Op.equalIn (d + e) t (fval l xs) (fval l ys)).run P w = .ok (cellsEqV xs ys) w := by
  induction d with
  | zero => intro t ks l h; cases h
  | succ d ih =>
    intro t ks l h hl e xs ys w ht
    rw [show d + 1 + e = (d + e) + 1 by omega]
    simp only [eqKinds] at h
    have one : ∀ u, P.underlying t = some u → (∀ fs, u ≠ .struct fs) → (∀ n e, u ≠ .array n e) → l = none := fun u hu h1 h2 => by
      unfold tyLay at hl
      rw [hu] at hl
      split at hl
      · rename_i fs i e _; simp only [Option.some.injEq] at e; exact absurd e (h1 _)
      · rename_i n e i e' _; simp only [Option.some.injEq] at e'; exact absurd e' (h2 _ _)
      · cases hl; rfl
      · cases hl
    split at h
    · rename_i k hu
      cases h
      have := one _ hu (fun _ => by simp) (fun _ _ => by simp)
      subst this
      obtain ⟨x, y, rfl, rfl⟩ := ht.one
      match x, y, ht with
      | .int k1 a, .int k2 b, ⟨h1, _⟩ =>
        subst h1
        simp [fval, run_equalIn_int w (d + e) t k1 k a b hu, cellsEqV, cellEqV]
    · rename_i hu
      cases h
      have := one _ hu (fun _ => by simp) (fun _ _ => by simp)
      subst this
      obtain ⟨x, y, rfl, rfl⟩ := ht.one
      match x, y, ht with
      | .bool a, .bool b, _ => simp [fval, run_equalIn_bool w (d + e) t a b hu, cellsEqV, cellEqV]
    · rename_i hu
      cases h
      have := one _ hu (fun _ => by simp) (fun _ _ => by simp)
      subst this
      obtain ⟨x, y, rfl, rfl⟩ := ht.one
      match x, y, ht with
      | .string a, .string b, _ =>
        simp only [fval, List.getD_cons_zero, run_equalIn_string w (d + e) t a b hu, cellsEqV, cellEqV, Bool.and_true, beq_toListBytes]
    · rename_i fs hu
      split at h
      · cases h
      · rename_i hsh
        have hl' := tyLay_struct hu hl
        obtain ⟨n, rfl⟩ := hl'
        have hfo : P.underlying t = some (.struct (P.fieldsOf t)) := by unfold Program.fieldsOf; rw [hu]
        have hfs : P.fieldsOf t = fs := by unfold Program.fieldsOf; rw [hu]
        have := run_equalIn_struct (P := P) w (d + e) t xs.toArray ys.toArray hfo (by simpa using hsh)
        rw [hfs] at this
        simp only [fval]
        rw [this]
        have := eqFields_run (P := P) (D := d + e) (r := eqKinds P d) (fun t ks l h1 h2 xs ys w ht => ih t ks l h1 h2 e xs ys w ht) xs ys w fs.toList 0 ks h (by simpa using ht)
        simpa using this
    · cases h
def cellEq : DV → DV → Bool
  | .v (.int _ a), .v (.int _ b) => a == b
  | .v (.bool a), .v (.bool b) => a == b
  | .v (.string a), .v (.string b) => a == b
  | _, _ => true
def cellsEq : List DV → List DV → Bool
  | x :: xs, y :: ys => cellEq x y && cellsEq xs ys
  | _, _ => true
def typedD : List CK → List DV → List DV → Bool
  | [], [], [] => true
  | .int :: ks, .v (.int k _) :: xs, .v (.int k' _) :: ys => decide (k = k') && typedD ks xs ys
  | .bool :: ks, .v (.bool _) :: xs, .v (.bool _) :: ys => typedD ks xs ys
  | .str :: ks, .v (.string _) :: xs, .v (.string _) :: ys => typedD ks xs ys
  | _, _, _ => false
def eqTK (P : Program) (t : TypeId) : Option (List CK) :=
  match tyLay P t with
  | some (some _) => if P.eqGuardType P.depth t = true then none else eqKinds P 20 t
  | _ => none
def str : DV → DV
  | .when _ d => str d
  | d => d
def wok : DV → Prop
  | .when t d => t = true ∧ wok d
  | _ => True
theorem rv_str {w : World} {F : Nat → Prop} {β : Beta} {x : Value} : (d : DV) → wok d → RV w F β d x → RV w F β (str d) x
  | .when t d, h, hx => by
    obtain ⟨h1, h2⟩ := h
    cases hx with
    | data h => cases h
    | whn _ _ _ h3 _ => exact rv_str d h2 (h3 h1)
  | .v _, _, hx | .lst .., _, hx | .lref .., _, hx | .ref .., _, hx | .arr .., _, hx | .sub .., _, hx | .agg _, _, hx | .tup _, _, hx | .clo .., _, hx | .ifc .., _, hx | .mp _, _, hx | .mo _, _, hx | .dead, _, hx => hx
theorem typed_of {w : World} {F : Nat → Prop} {β : Beta} (ks : List CK) : ∀ {ds es : List DV} {xs ys : List Value}, typedD ks ds es = true → Pw w F β ds xs → Pw w F β es ys →
    Typed ks xs ys ∧ cellsEqV xs ys = cellsEq ds es := by
  induction ks with
  | nil =>
    intro ds es xs ys h hx hy
    cases ds <;> cases es <;> first | (simp [typedD] at h; done) | skip
    have h1 : xs = [] := List.length_eq_zero_iff.1 hx.1.symm
    have h2 : ys = [] := List.length_eq_zero_iff.1 hy.1.symm
    subst h1 h2
    exact ⟨trivial, rfl⟩
  | cons c ks ih =>
    intro ds es xs ys h hx hy
    cases ds with
    | nil => cases c <;> simp [typedD] at h
    | cons d ds =>
      cases es with
      | nil => cases c <;> cases d <;> first | (simp [typedD] at h; done) | (rename_i u; cases u <;> simp [typedD] at h)
      | cons e es =>
        cases xs with
        | nil => have := hx.1; simp at this
        | cons x xs =>
          cases ys with
          | nil => have := hy.1; simp at this
          | cons y ys =>
            obtain ⟨hx1, hx2⟩ := hx.tail
            obtain ⟨hy1, hy2⟩ := hy.tail
            unfold typedD at h
            split at h
            case h_1 => rename_i e1 _ _; cases e1
            case h_2 =>
              rename_i a b c
              cases a; cases b; cases c
              simp only [Bool.and_eq_true, decide_eq_true_eq] at h
              obtain ⟨i1, i2⟩ := ih h.2 hx2 hy2
              rw [rv_v hx1, rv_v hy1]
              exact ⟨⟨h.1, i1⟩, by simp only [cellsEqV, cellEqV, cellsEq, cellEq, i2]⟩
            case h_3 =>
              rename_i a b c
              cases a; cases b; cases c
              obtain ⟨i1, i2⟩ := ih h hx2 hy2
              rw [rv_v hx1, rv_v hy1]
              exact ⟨i1, by simp only [cellsEqV, cellEqV, cellsEq, cellEq, i2]⟩
            case h_4 =>
              rename_i a b c
              cases a; cases b; cases c
              obtain ⟨i1, i2⟩ := ih h hx2 hy2
              rw [rv_v hx1, rv_v hy1]
              exact ⟨i1, by simp only [cellsEqV, cellEqV, cellsEq, cellEq, i2]⟩
            case h_5 => cases h
theorem equal_run {P : Program} {t : TypeId} {ds es : List DV} (h : (eqTK P t).any (fun ks => typedD ks ds es) = true) {w w' : World} {F : Nat → Prop} {β : Beta} {xs ys : List Value} (hx : Pw w F β ds xs) (hy : Pw w F β es ys) :
    P.eqGuardType P.depth t = false ∧ (Op.equal t (.agg xs.toArray) (.agg ys.toArray)).run P w' = .ok (cellsEq ds es) w' := by
  unfold eqTK at h
  split at h
  · rename_i n hn
    split at h
    · cases h
    · rename_i hg
      cases h1 : eqKinds P 20 t with
      | none => rw [h1] at h; cases h
      | some ks =>
      rw [h1] at h
      have h2 : typedD ks ds es = true := h
      obtain ⟨k1, k2⟩ := typed_of ks h2 hx hy
      have := equalIn_run 20 t ks (some n) h1 hn 9980 xs ys w' k1
      exact ⟨by simpa using hg, by rw [← k2]; exact this⟩
  · cases h
theorem qsem_eql {P : Program} {s : Sto} {t : TypeId} {x y : Operand} {yt : TypeId} {ρ : Operand → DV} {ds es : List DV} (wx : wok (ρ x)) (hx : str (ρ x) = .agg ds) (wy : wok (ρ y)) (hy : str (ρ y) = .agg es)
    (h : (eqTK P t).any (fun ks => typedD ks ds es) = true) : QSem P s (.binOp .eql t x y yt) ρ (.v (.bool (cellsEq ds es))) := by
  intro w0 F0 β w a hs hρ
  have h1 := rv_str _ wx (hρ x)
  have h2 := rv_str _ wy (hρ y)
  rw [hx] at h1
  rw [hy] at h2
  obtain ⟨xs, ex, l1, p1⟩ := rv_agg h1
  obtain ⟨ys, ey, l2, p2⟩ := rv_agg h2
  refine ⟨_, .data (.v _ rfl), fun o w' ho _ => ?_⟩
  obtain ⟨g1, g2⟩ := equal_run (w' := w') h ⟨l1, p1⟩ ⟨l2, p2⟩
  simp only [execOp, ho, ex, ey, Sem.run_bind, run_eqGuard_agg w' .eql t x y _ _ g1, Result.andThen_ok, binOp, g2, Sem.run_pure]
theorem qsem_neq {P : Program} {s : Sto} {t : TypeId} {x y : Operand} {yt : TypeId} {ρ : Operand → DV} {ds es : List DV} (wx : wok (ρ x)) (hx : str (ρ x) = .agg ds) (wy : wok (ρ y)) (hy : str (ρ y) = .agg es)
    (h : (eqTK P t).any (fun ks => typedD ks ds es) = true) : QSem P s (.binOp .neq t x y yt) ρ (.v (.bool (!cellsEq ds es))) := by
  intro w0 F0 β w a hs hρ
  have h1 := rv_str _ wx (hρ x)
  have h2 := rv_str _ wy (hρ y)
  rw [hx] at h1
  rw [hy] at h2
  obtain ⟨xs, ex, l1, p1⟩ := rv_agg h1
  obtain ⟨ys, ey, l2, p2⟩ := rv_agg h2
  refine ⟨_, .data (.v _ rfl), fun o w' ho _ => ?_⟩
  obtain ⟨g1, g2⟩ := equal_run (w' := w') h ⟨l1, p1⟩ ⟨l2, p2⟩
  simp only [execOp, ho, ex, ey, Sem.run_bind, run_eqGuard_agg w' .neq t x y _ _ g1, Result.andThen_ok, binOp, g2, Sem.run_pure]
theorem dq_eql {P : Program} {s : Sto} {t : TypeId} {x y : Operand} {yt : TypeId} {ρ : Operand → DV} {ds es : List DV} {g : Bool} {K : DV → Prop} {ks : List CK} (hks : eqTK P t = some ks) (wx : g = true → wok (ρ x)) (hx : str (ρ x) = .agg ds) (wy : g = true → wok (ρ y)) (hy : str (ρ y) = .agg es)
    (h : typedD ks ds es = true) (hk : K (.v (.bool (cellsEq ds es)))) : ∃ d, (g = true → QSem P s (.binOp .eql t x y yt) ρ d) ∧ K d :=
  ⟨_, fun hg => qsem_eql (wx hg) hx (wy hg) hy (by rw [hks]; exact h), hk⟩
theorem dq_neq {P : Program} {s : Sto} {t : TypeId} {x y : Operand} {yt : TypeId} {ρ : Operand → DV} {ds es : List DV} {g : Bool} {K : DV → Prop} {ks : List CK} (hks : eqTK P t = some ks) (wx : g = true → wok (ρ x)) (hx : str (ρ x) = .agg ds) (wy : g = true → wok (ρ y)) (hy : str (ρ y) = .agg es)
    (h : typedD ks ds es = true) (hk : K (.v (.bool (!cellsEq ds es)))) : ∃ d, (g = true → QSem P s (.binOp .neq t x y yt) ρ d) ∧ K d :=
  ⟨_, fun hg => qsem_neq (wx hg) hx (wy hg) hy (by rw [hks]; exact h), hk⟩
end Go.Dl
namespace Go.Dl
open Go Go.RowKit
inductive DW (ρ : Nat → Option Nat) (s : Sto) (pub : Nat → Prop) : DV → DV → Prop
  | dead (d : DV) : DW ρ s pub d .dead
  | same (d : DV) (h : noId1 d = true) : DW ρ s pub d d
  | ref (id id' off : Nat) (h : ρ id' = some id) : DW ρ s pub (.ref id off) (.ref id' off)
  | arr (id id' len : Nat) (h : ρ id' = some id) : DW ρ s pub (.arr id len) (.arr id' len)
  | sub (id id' off len : Nat) (h : ρ id' = some id) : DW ρ s pub (.sub id off len) (.sub id' off len)
  | mo (id id' : Nat) (h : ρ id' = some id) : DW ρ s pub (.mo id) (.mo id')
  | nilArr (id' : Nat) (h : ρ id' = none) : DW ρ s pub (.v (.slice none 0 0)) (.arr id' 0)
  | nilLst (sz : Nat) : DW ρ s pub (.v (.slice none 0 0)) (.lst sz [])
  | pub (id len : Nat) (o : DObj) (hob : s.ob id = some o) (hp : pub id) (hl : len * o.sz ≤ o.cells.length) (ha : o.cells.all isData1 = true) (hz : 0 < o.sz) :
      DW ρ s pub (.arr id len) (.lst o.sz (chunks o.sz len o.cells))
  | lref (id off : Nat) (o : DObj) (hob : s.ob id = some o) (hp : pub id) (ha : o.cells.all isData1 = true) (hl : o.sz = o.cells.length) (hz : 0 < o.sz) : DW ρ s pub (.ref id off) (.lref o.sz [o.cells] 0 off)
  | agg (ds es : List DV) (hl : ds.length = es.length) (h : ∀ (i : Nat) d e, ds[i]? = some d → es[i]? = some e → DW ρ s pub d e) : DW ρ s pub (.agg ds) (.agg es)
  | tup (ds es : List DV) (hl : ds.length = es.length) (h : ∀ (i : Nat) d e, ds[i]? = some d → es[i]? = some e → DW ρ s pub d e) : DW ρ s pub (.tup ds) (.tup es)
  | clo (f : Fn) (ds es ds' es' : List DV) (hl : ds.length = ds'.length) (hl' : es.length = es'.length) (h : ∀ (i : Nat) d e, ds[i]? = some d → ds'[i]? = some e → DW ρ s pub d e)
      (h' : ∀ (i : Nat) d e, es[i]? = some d → es'[i]? = some e → DW ρ s pub d e) : DW ρ s pub (.clo f ds es) (.clo f ds' es')
  | ifc (t : TypeId) (d e : DV) (h : DW ρ s pub d e) : DW ρ s pub (.ifc t d) (.ifc t e)
  | strip (b : Bool) (d e : DV) (hb : b = true) (h : DW ρ s pub d e) : DW ρ s pub (.when b d) e
def DWl (ρ : Nat → Option Nat) (s : Sto) (pub : Nat → Prop) (ds es : List DV) : Prop :=
  ds.length = es.length ∧ ∀ (i : Nat) d e, ds[i]? = some d → es[i]? = some e → DW ρ s pub d e
section
variable {ρ : Nat → Option Nat} {s : Sto} {pub : Nat → Prop}
theorem DWl.nil : DWl ρ s pub [] [] := ⟨rfl, fun i d e h => by simp at h⟩
theorem DWl.cons {d e : DV} {ds es : List DV} (h : DW ρ s pub d e) (k : DWl ρ s pub ds es) : DWl ρ s pub (d :: ds) (e :: es) :=
  ⟨by simp [k.1], fun i d' e' h1 h2 => by
    cases i with
    | zero => simp at h1 h2; subst h1 h2; exact h
    | succ i => exact k.2 i d' e' (by simpa using h1) (by simpa using h2)⟩
theorem DWl.same {ds : List DV} (h : ds.all noId1 = true) : DWl ρ s pub ds ds :=
  ⟨rfl, fun i d e h1 h2 => by
    rw [h1] at h2; cases h2
    exact .same _ (List.all_eq_true.1 h d (List.mem_of_getElem? h1))⟩
theorem DW.aggl {ds es : List DV} (h : DWl ρ s pub ds es) : DW ρ s pub (.agg ds) (.agg es) := .agg _ _ h.1 h.2
theorem DW.tupl {ds es : List DV} (h : DWl ρ s pub ds es) : DW ρ s pub (.tup ds) (.tup es) := .tup _ _ h.1 h.2
theorem DW.clol {f : Fn} {ds es ds' es' : List DV} (h : DWl ρ s pub ds ds') (h' : DWl ρ s pub es es') : DW ρ s pub (.clo f ds es) (.clo f ds' es') := .clo _ _ _ _ _ h.1 h'.1 h.2 h'.2
end
theorem pub_rd [Inhabited GlobS] {w0 w : World} {F0 F' : Nat → Prop} {s : Sto} {β : Beta} (hs : SRel w0 F0 s β w) {id len : Nat} {o : DObj} (hob : s.ob id = some o) (hle : len * o.sz ≤ o.cells.length)
    (hall : o.cells.all isData1 = true) (hpos : 0 < o.sz) {x : Value} (hx : RV w (Fr w0 F0 s β) β (.arr id len) x) (hF : ∀ b, b < w.heap.size → Fr w0 F0 s β b → F' b) (hb : ∀ b c, β id = some (some (b, c)) → F' b) :
    RD w F' (.lst o.sz (chunks o.sz len o.cells)) x := by
  have hcl : (chunks o.sz len o.cells).length = len := by simp [chunks]
  have hget : ∀ (i : Nat) cs, (chunks o.sz len o.cells)[i]? = some cs → i < len ∧ cs = (o.cells.drop (i * o.sz)).take o.sz := fun i cs h => by
    have hi : i < len := by have := (List.getElem?_eq_some_iff.1 h).1; rw [hcl] at this; exact this
    simp [chunks, hi] at h
    exact ⟨hi, h.symm⟩
  have hfit : ∀ i, i < len → i * o.sz + o.sz ≤ o.cells.length := fun i hi => by
    have : (i + 1) * o.sz ≤ len * o.sz := Nat.mul_le_mul_right _ hi
    rw [Nat.succ_mul] at this
    omega
  rcases rv_arr hx with ⟨b, c, hb', hlc, rfl⟩ | ⟨hb', rfl, rfl⟩
  · rcases hs.obs id o hob with g | ⟨b', c', cur, g1, g2, g3, g4, g5, g6, g7⟩
    · rw [g.1] at hb'; cases hb'
    rw [g1] at hb'
    simp only [Option.some.injEq, Prod.mk.injEq] at hb'
    obtain ⟨rfl, rfl⟩ := hb'
    have key : RD w F' (.lst o.sz (chunks o.sz len o.cells)) (.slice (some ⟨b', 0, none⟩) (chunks o.sz len o.cells).length c') := by
      refine .lst _ _ _ b' 0 c' (fun i j => (cur[i * o.sz + j]?).getD undef) (fun _ => rfl) (fun h => by cases h) (by rw [hcl]; exact hlc) g5 (fun i cs hi => ?_) (fun i cs j d hi hj => ?_) (fun i cs j d hi hj => ?_)
      · obtain ⟨h1, rfl⟩ := hget i cs hi
        have := hfit i h1
        simp; omega
      all_goals
        obtain ⟨h1, rfl⟩ := hget i cs hi
        rw [List.getElem?_take] at hj
        split at hj
        case isFalse => cases hj
        rw [List.getElem?_drop] at hj
        obtain ⟨y, hy, hr⟩ := g7 _ _ hj
      · refine ⟨?_, hb _ _ g1⟩
        have h0 : 0 < o.cells.length := by have := (List.getElem?_eq_some_iff.1 hj).1; omega
        obtain ⟨y0, hy0, hr0⟩ := g7 0 _ (List.getElem?_eq_getElem h0)
        have hd := List.all_eq_true.1 hall _ (List.getElem_mem h0)
        have h1 : y0.oneCell' = true := by
          generalize o.cells[0] = d0 at hr0 hd
          cases hr0 with
          | data h => exact h.one
          | _ => cases hd
        rw [blk_one hy0 h1] at g3
        simp [World.cell?, g3, hy]
      · have hd := List.all_eq_true.1 hall d (List.mem_of_getElem? hj)
        rw [hy]
        simp only [Option.getD_some]
        cases hr with
        | data h => exact h.mono fun b hb hF' => ⟨hF b hb hF', rfl⟩
        | _ => cases hd
    rw [hcl] at key
    exact key
  · exact .lst _ _ none 0 0 0 (fun _ _ => undef) (fun h => by simp [chunks] at h) (fun _ => rfl) (by simp [chunks]) (by simp [maxLen]) (fun i cs h => by simp [chunks] at h) (fun i cs j d h => by simp [chunks] at h) (fun i cs j d h => by simp [chunks] at h)
def reβ (ρ : Nat → Option Nat) (β : Beta) (nx' : Nat) : Beta := fun i => if i < nx' then (match ρ i with | some k => β k | none => some none) else none
theorem DW.rv [Inhabited GlobS] {ρ : Nat → Option Nat} {s : Sto} {pub : Nat → Prop} {w0 w : World} {F0 F' : Nat → Prop} {β β' : Beta} (hs : SRel w0 F0 s β w)
    (hF : ∀ b, b < w.heap.size → Fr w0 F0 s β b → F' b) (hp : ∀ id b c, pub id → β id = some (some (b, c)) → F' b) (hβ : ∀ i k p, ρ i = some k → β k = some p → β' i = some p) (hn : ∀ i, ρ i = none → β' i = some none)
    {d d' : DV} (h : DW ρ s pub d d') : ∀ {x : Value}, RV w (Fr w0 F0 s β) β d x → RV w F' β' d' x := by
  induction h with
  | dead d => intro x _; exact .dead _
  | same d h => intro x hx; exact rv_noId1 hx h fun b hb hF' => ⟨hF b hb hF', rfl⟩
  | ref id id' off h =>
    intro x hx
    obtain ⟨b, c, hb, rfl⟩ := rv_ref hx
    exact .ref _ _ b c (hβ _ _ _ h hb)
  | arr id id' len h =>
    intro x hx
    rcases rv_arr hx with ⟨b, c, hb, hl, rfl⟩ | ⟨hb, rfl, rfl⟩
    · exact .arr _ _ b c (hβ _ _ _ h hb) hl
    · exact .arrNil _ (hβ _ _ _ h hb)
  | sub id id' off len h =>
    intro x hx
    obtain ⟨a, n, rfl, h1, h2, h3⟩ := rv_sub hx
    exact .sub _ _ _ a n (fun h0 => (by obtain ⟨b, c, k1, k2⟩ := h1 h0; exact ⟨b, c, hβ _ _ _ h k1, k2⟩)) h2 h3
  | mo id id' h =>
    intro x hx
    obtain ⟨b, c, hb, rfl⟩ := rv_mo hx
    exact .mo _ b c (hβ _ _ _ h hb)
  | nilArr id' h =>
    intro x hx
    rw [rv_v hx]
    exact .arrNil _ (hn _ h)
  | nilLst sz =>
    intro x hx
    rw [rv_v hx]
    exact .data (.lst sz [] none 0 0 0 (fun _ _ => undef) (fun h => (h rfl).elim) (fun _ => rfl) (by simp) (by simp [maxLen]) (fun i cs h => by simp at h) (fun i cs j d h => by simp at h) (fun i cs j d h => by simp at h))
  | pub id len o hob hpub hl ha hz => intro x hx; exact .data (pub_rd hs hob hl ha hz hx hF (fun b c hb => hp _ _ _ hpub hb))
  | lref id off o hob hpub ha hl hz =>
    intro x hx
    obtain ⟨b, c, hb, rfl⟩ := rv_ref hx
    have hc : 1 ≤ c := by
      rcases hs.obs id o hob with g | ⟨b', c', cur, g1, g2, g3, g4, g5, g6, g7⟩
      · rw [g.1] at hb; cases hb
      · rw [g1] at hb
        simp only [Option.some.injEq, Prod.mk.injEq] at hb
        obtain ⟨rfl, rfl⟩ := hb
        rcases Nat.eq_zero_or_pos c' with h0 | h0
        · rw [h0, Nat.zero_mul] at g4; omega
        · exact h0
    have h1 := pub_rd hs (len := 1) hob (by omega) ha hz (.arr id 1 b c hb hc) hF (fun b c hb => hp _ _ _ hpub hb)
    have h2 : chunks o.sz 1 o.cells = [o.cells] := by
      simp only [chunks, List.range_one, List.map_cons, List.map_nil, Nat.zero_mul, List.drop_zero, hl, List.take_length]
    rw [h2] at h1
    have h3 := RV.lref (w := w) (F := F') (β := β') o.sz [o.cells] 0 off b 0 c h1 (by simp)
    simpa using h3
  | agg ds es hl h ih =>
    intro x hx
    obtain ⟨xs, rfl, hl2, hp⟩ := rv_agg hx
    refine .agg _ _ (by omega) (fun i e y k1 k2 => ?_)
    have hi : i < ds.length := by rw [hl]; exact (List.getElem?_eq_some_iff.1 k1).1
    exact ih i _ _ (List.getElem?_eq_getElem hi) k1 (hp i _ _ (List.getElem?_eq_getElem hi) k2)
  | tup ds es hl h ih =>
    intro x hx
    obtain ⟨xs, rfl, hl2, hp⟩ := rv_tup hx
    refine .tup _ _ (by omega) (fun i e y k1 k2 => ?_)
    have hi : i < ds.length := by rw [hl]; exact (List.getElem?_eq_some_iff.1 k1).1
    exact ih i _ _ (List.getElem?_eq_getElem hi) k1 (hp i _ _ (List.getElem?_eq_getElem hi) k2)
  | clo f ds es ds' es' hl hl' h h' ih ih' =>
    intro x hx
    obtain ⟨xs, ys, rfl, hl2, hl3, hp1, hp2⟩ := rv_clo hx
    refine .clo _ _ _ _ _ (by omega) (by omega) (fun i e y k1 k2 => ?_) (fun i e y k1 k2 => ?_)
    · have hi : i < ds.length := by rw [hl]; exact (List.getElem?_eq_some_iff.1 k1).1
      exact ih i _ _ (List.getElem?_eq_getElem hi) k1 (hp1 i _ _ (List.getElem?_eq_getElem hi) k2)
    · have hi : i < es.length := by rw [hl']; exact (List.getElem?_eq_some_iff.1 k1).1
      exact ih' i _ _ (List.getElem?_eq_getElem hi) k1 (hp2 i _ _ (List.getElem?_eq_getElem hi) k2)
  | ifc t d e h ih =>
    intro x hx
    cases hx with
    | data h => cases h
    | ifc _ _ y hy => exact .ifc _ _ _ (ih hy)
  | strip b d e hb h ih =>
    intro x hx
    cases hx with
    | data h => cases h
    | whn _ _ _ h1 _ => exact ih (h1 hb)
structure SW (ρ : Nat → Option Nat) (s s' : Sto) (base : Nat) (pub : Nat → Prop) : Prop where
  ob : ∀ i o', s'.ob i = some o' → i < s'.nx ∧ (match ρ i with
    | some k => ∃ o, s.ob k = some o ∧ o.elem = o'.elem ∧ o.sz = o'.sz ∧ o'.cells.length ≤ o.cells.length ∧ DWl ρ s pub (o.cells.take o'.cells.length) o'.cells
    | none => o'.cells = [])
  inj : ∀ i j k, (s'.ob i).isSome = true → (s'.ob j).isSome = true → ρ i = some k → ρ j = some k → i = j
  keep : ∀ i, i < base → i < s'.nx ∧ ρ i = some i
  pub : ∀ i k, (s'.ob i).isSome = true → ρ i = some k → ¬ pub k
  dom : ∀ i k, ρ i = some k → k < s.nx → i < s'.nx
  domn : ∀ i, ρ i = none → i < s'.nx
theorem SW.stepF [Inhabited GlobS] {ρ : Nat → Option Nat} {s s' : Sto} {base : Nat} {pub : Nat → Prop} (h : SW ρ s s' base pub) {w0 w : World} {F0 : Nat → Prop} (F1 : Nat → Prop) {β : Beta} (hs : SRel w0 F0 s β w)
    (c1 : ∀ b, Fr w0 F0 s β b → F1 b) (c2 : ∀ k b c, (s.ob k).isSome = true → β k = some (some (b, c)) → (pub k ∨ ∃ i, (s'.ob i).isSome = true ∧ ρ i = some k) → F1 b) (c3 : ∀ b, w.heap.size ≤ b → F1 b) :
    SRel w0 F1 s' (reβ ρ β s'.nx) w ∧ Ext base w0 nX s β w s' (reβ ρ β s'.nx) w ∧ ∀ {d d' : DV} {x : Value}, DW ρ s pub d d' → RV w (Fr w0 F0 s β) β d x → RV w (Fr w0 F1 s' (reβ ρ β s'.nx)) (reβ ρ β s'.nx) d' x := by
  have hβ : ∀ i k p, ρ i = some k → β k = some p → reβ ρ β s'.nx i = some p := fun i k p h1 h2 => by
    have hk : k < s.nx := Nat.lt_of_not_le fun hk => by rw [(hs.nx k hk).1] at h2; cases h2
    simp only [reβ, if_pos (h.dom i k h1 hk), h1, h2]
  have hn : ∀ i, ρ i = none → reβ ρ β s'.nx i = some none := fun i h1 => by
    simp only [reβ, if_pos (h.domn i h1), h1]
  -- a number of the new store that lies in a block
  have hown : ∀ i b c, (s'.ob i).isSome = true → reβ ρ β s'.nx i = some (some (b, c)) → ∃ k, ρ i = some k ∧ (s.ob k).isSome = true ∧ β k = some (some (b, c)) := fun i b c hi hb => by
    obtain ⟨o', ho'⟩ := Option.isSome_iff_exists.1 hi
    obtain ⟨h1, h2⟩ := h.ob i o' ho'
    simp only [reβ, if_pos h1] at hb
    split at hb
    · rename_i k hk
      simp only [hk] at h2
      obtain ⟨o, ho, _⟩ := h2
      exact ⟨k, hk, by simp [ho], hb⟩
    · cases hb
  have hU : ∀ b, Un w0 s β b → Un w0 s' (reβ ρ β s'.nx) b := fun b hF => by
    rcases hF with hF | ⟨h1, h2⟩
    · exact .inl hF
    · refine .inr ⟨h1, fun i c hi hb => ?_⟩
      obtain ⟨k, _, k2, k3⟩ := hown i b c hi hb
      exact h2 k c k2 k3
  have hF : ∀ b, b < w.heap.size → Fr w0 F0 s β b → Fr w0 F1 s' (reβ ρ β s'.nx) b := fun b _ hF => ⟨c1 b hF, hU b hF.2⟩
  have hp : ∀ id b c, pub id → β id = some (some (b, c)) → (s.ob id).isSome = true → Fr w0 F1 s' (reβ ρ β s'.nx) b := fun id b c hpub hb hsome => by
    obtain ⟨o, ho⟩ := Option.isSome_iff_exists.1 hsome
    rcases hs.obs id o ho with g | ⟨b', c', cur, g1, g2, _⟩
    · rw [g.1] at hb; cases hb
    rw [g1] at hb
    simp only [Option.some.injEq, Prod.mk.injEq] at hb
    obtain ⟨rfl, rfl⟩ := hb
    refine ⟨c2 id b' c' hsome g1 (.inl hpub), .inr ⟨g2, fun i c hi hb => ?_⟩⟩
    obtain ⟨k, k1, k2, k3⟩ := hown i _ c hi hb
    have e := hs.inj k id b' _ _ k2 hsome k3 g1
    subst e
    exact h.pub i _ hi k1 hpub
  have hrv : ∀ {d d' : DV} {x : Value}, DW ρ s (fun id => pub id ∧ (s.ob id).isSome = true) d d' → RV w (Fr w0 F0 s β) β d x → RV w (Fr w0 F1 s' (reβ ρ β s'.nx)) (reβ ρ β s'.nx) d' x := fun h hx =>
    h.rv hs hF (fun id b c hpub hb => hp id b c hpub.1 hb hpub.2) hβ hn hx
  have hdw : ∀ {d d' : DV}, DW ρ s pub d d' → DW ρ s (fun id => pub id ∧ (s.ob id).isSome = true) d d' := fun {d d'} h => by
    induction h with
    | dead d => exact .dead _
    | same d h => exact .same _ h
    | ref id id' off h => exact .ref _ _ _ h
    | arr id id' len h => exact .arr _ _ _ h
    | sub id id' off len h => exact .sub _ _ _ _ h
    | mo id id' h => exact .mo _ _ h
    | nilArr id' h => exact .nilArr _ h
    | nilLst sz => exact .nilLst _
    | pub id len o hob hp hl ha hz => exact .pub _ _ _ hob ⟨hp, by simp [hob]⟩ hl ha hz
    | lref id off o hob hp ha hl hz => exact .lref _ _ _ hob ⟨hp, by simp [hob]⟩ ha hl hz
    | agg ds es hl h ih => exact .agg _ _ hl ih
    | tup ds es hl h ih => exact .tup _ _ hl ih
    | clo f ds es ds' es' hl hl' h h' ih ih' => exact .clo _ _ _ _ _ hl hl' ih ih'
    | ifc t d e h ih => exact .ifc _ _ _ ih
    | strip b d e hb h ih => exact .strip _ _ _ hb ih
  refine ⟨⟨hs.below, fun i o' ho' => ?_, fun i j b c c' hi hj hbi hbj => ?_, fun i hi => ?_, c3, fun i b c hi hb => by obtain ⟨k, k1, k2, k3⟩ := hown i b c hi hb; exact c2 k b c k2 k3 (.inr ⟨i, hi, k1⟩), hs.gl⟩, ⟨fun i hi p hp' => ?_, Nat.le_refl _, fun b hb _ hF' => ⟨hU b hF', rfl⟩⟩, fun hd hx => hrv (hdw hd) hx⟩
  · obtain ⟨h1, h2⟩ := h.ob i o' ho'
    cases hk : ρ i with
    | none => simp only [hk] at h2; exact .inl ⟨hn i hk, h2⟩
    | some k =>
      simp only [hk] at h2
      obtain ⟨o, ho, e1, e2, e3, e4⟩ := h2
      rcases hs.obs k o ho with g | ⟨b', c', cur, g1, g2, g3, g4, g5, g6, g7⟩
      · refine .inl ⟨hβ _ _ _ hk g.1, ?_⟩
        have := g.2
        rw [this] at e3
        exact List.length_eq_zero_iff.1 (by simpa using e3)
      · refine .inr ⟨b', c', cur, hβ _ _ _ hk g1, g2, by rw [← e1]; exact g3, by rw [← e2]; exact g4, g5, by omega, fun j d hj => ?_⟩
        have hjl : j < o'.cells.length := (List.getElem?_eq_some_iff.1 hj).1
        have hjo : o.cells[j]? = some (o.cells[j]'(by omega)) := List.getElem?_eq_getElem _
        obtain ⟨x, hx, hr⟩ := g7 j _ hjo
        refine ⟨x, hx, hrv (hdw (e4.2 j _ _ ?_ hj)) hr⟩
        rw [List.getElem?_take, if_pos hjl]
        exact hjo
  · obtain ⟨k, k1, k2, k3⟩ := hown i b c hi hbi
    obtain ⟨k', k1', k2', k3'⟩ := hown j b c' hj hbj
    have e := hs.inj k k' b c c' k2 k2' k3 k3'
    subst e
    exact h.inj i j k hi hj k1 k1'
  · have hi' : ¬ i < s'.nx := by omega
    refine ⟨by simp only [reβ, if_neg hi'], ?_⟩
    cases ho : s'.ob i with
    | none => rfl
    | some o' => exact absurd (h.ob i o' ho).1 hi'
  · obtain ⟨h1, h2⟩ := h.keep i hi
    exact hβ i i p h2 hp'
theorem SW.step [Inhabited GlobS] {ρ : Nat → Option Nat} {s s' : Sto} {base : Nat} {pub : Nat → Prop} (h : SW ρ s s' base pub) {w0 w : World} {F0 : Nat → Prop} {β : Beta} (hs : SRel w0 F0 s β w) :
    SRel w0 F0 s' (reβ ρ β s'.nx) w ∧ Ext base w0 nX s β w s' (reβ ρ β s'.nx) w ∧ ∀ {d d' : DV} {x : Value}, DW ρ s pub d d' → RV w (Fr w0 F0 s β) β d x → RV w (Fr w0 F0 s' (reβ ρ β s'.nx)) (reβ ρ β s'.nx) d' x :=
  h.stepF F0 hs (fun _ hF => hF.1) (fun k b c hk hb _ => hs.own k b c hk hb) hs.up
end Go.Dl
namespace Go.Dl
open Go Go.RowKit
def Weak [Inhabited GlobS] (st st' : St) : Prop := ∀ (G : Org) (β : Beta) (a : Act) (w : World), Rel G st β a w → ∃ β', Rel G st' β' a w
theorem Weak.of [Inhabited GlobS] {st st' : St} {ρ : Nat → Option Nat} {pub : Nat → Prop} (hb : st'.base = st.base) (hn : st.base.n ≤ st'.s.nx) (hs : SW ρ st.s st'.s st.base.n pub)
    (ht : ∀ t, DW ρ st.s pub (st.tm t) (st'.tm t)) : Weak st st' := fun G β a w h => by
  obtain ⟨h1, h2, h3⟩ := hs.step h.srel
  exact ⟨_, h1, h.ext.trans (h2.mono h.bs).toX, by rw [hb]; exact h.bs, Nat.le_trans h.bs hn, fun t => h3 (ht t) (h.tm t), h.size, h.df.ext (fun _ h => h.elim) h2, by rw [hb]; exact G.hrx _ _ _ _ _ _ _ h.hs h2.keep, h.rd.ext (fun _ h => h.elim) h2⟩
noncomputable def allP {α : Type} (p : α → Prop) (l : List α) : Prop := List.rec True (fun x _ ih => p x ∧ ih) l
theorem allP_mem {α : Type} {p : α → Prop} : ∀ {l : List α}, allP p l → ∀ x ∈ l, p x := fun {l} => by
  induction l with
  | nil => intro _ x hx; cases hx
  | cons y l ih =>
    intro h x hx
    rcases List.mem_cons.1 hx with rfl | hx
    · exact h.1
    · exact ih h.2 x hx
def tmOf (l : List (Nat × DV)) : Nat → DV := fun t => (l.lookup t).getD .dead
def Sto.of (l : List (Nat × DObj)) (nx : Nat) : Sto := ⟨fun i => l.lookup i, nx⟩
def rho (rl : List (Nat × Option Nat)) (base snx : Nat) : Nat → Option Nat := fun i =>
  match rl.lookup i with
  | some x => x
  | none => if i < base then some i else some (i + snx)
theorem mem_of_lookup {α : Type} {l : List (Nat × α)} {i : Nat} {x : α} (h : l.lookup i = some x) : (i, x) ∈ l := by
  induction l with
  | nil => simp at h
  | cons p l ih =>
    obtain ⟨j, y⟩ := p
    rw [List.lookup_cons] at h
    cases hij : (i == j) with
    | true =>
      rw [hij] at h
      simp only [Option.some.injEq] at h
      rw [beq_iff_eq] at hij
      subst hij h
      exact List.mem_cons_self ..
    | false => rw [hij] at h; exact List.mem_cons_of_mem _ (ih h)
def OW (ρ : Nat → Option Nat) (s : Sto) (pub : Nat → Prop) (o o' : DObj) : Prop :=
  o.elem = o'.elem ∧ o.sz = o'.sz ∧ o'.cells.length ≤ o.cells.length ∧ DWl ρ s pub (o.cells.take o'.cells.length) o'.cells
theorem OW.cells {ρ : Nat → Option Nat} {s : Sto} {pub : Nat → Prop} {o o' : DObj} (h1 : o.elem = o'.elem) (h2 : o.sz = o'.sz) (h : DWl ρ s pub o.cells o'.cells) : OW ρ s pub o o' :=
  ⟨h1, h2, by rw [h.1]; exact Nat.le_refl _, by rw [← h.1, List.take_length]; exact h⟩
def chkS (rl : List (Nat × Option Nat)) (base snx nx' : Nat) (ids pubs : List Nat) : Bool :=
  decide (base ≤ nx') && rl.all (fun p => decide (base ≤ p.1) && decide (p.1 < nx')) && ids.all (fun i => decide (i < nx')) &&
  ids.all (fun i => ids.all fun j => decide (i = j) || (rho rl base snx i).isNone || rho rl base snx i != rho rl base snx j) &&
  ids.all (fun i => match rho rl base snx i with | some k => !pubs.contains k | none => true)
theorem SW.of {rl : List (Nat × Option Nat)} {pubs : List Nat} {base : Nat} {s : Sto} {l : List (Nat × DObj)} {nx' : Nat} (hc : chkS rl base s.nx nx' (l.map (·.1)) pubs = true)
    (ho : allP (fun p => match rho rl base s.nx p.1 with
      | some k => (match s.ob k with | some o => OW (rho rl base s.nx) s (· ∈ pubs) o p.2 | none => False)
      | none => p.2.cells = []) l) : SW (rho rl base s.nx) s (.of l nx') base (· ∈ pubs) := by
  simp only [chkS, Bool.and_eq_true, decide_eq_true_eq, List.all_eq_true, Bool.or_eq_true, bne_iff_ne, ne_eq] at hc
  obtain ⟨⟨⟨⟨c1, c2⟩, c3⟩, c4⟩, c5⟩ := hc
  have hid : ∀ i, ((Sto.of l nx').ob i).isSome = true → i ∈ l.map (·.1) := fun i hi => by
    obtain ⟨o, ho⟩ := Option.isSome_iff_exists.1 hi
    exact List.mem_map.2 ⟨_, mem_of_lookup ho, rfl⟩
  refine ⟨fun i o' hi => ?_, fun i j k hi hj h1 h2 => ?_, fun i hi => ?_, fun i k hi h1 => ?_, fun i k h1 h2 => ?_, fun i h1 => ?_⟩
  · refine ⟨c3 i (hid i (by rw [hi]; rfl)), ?_⟩
    have := allP_mem ho _ (mem_of_lookup hi)
    simp only at this
    split
    · rename_i k hk
      rw [hk] at this
      simp only at this
      split at this
      · rename_i o ho; exact ⟨o, ho, this⟩
      · exact this.elim
    · rename_i hk
      rw [hk] at this
      exact this
  · rcases c4 i (hid i hi) j (hid j hj) with (h | h) | h
    · exact h
    · rw [h1] at h; cases h
    · rw [h1, h2] at h; exact absurd rfl h
  · refine ⟨Nat.lt_of_lt_of_le hi c1, ?_⟩
    unfold rho
    split
    · rename_i x hx
      have := (c2 _ (mem_of_lookup hx)).1
      simp only at this
      omega
    · rw [if_pos hi]
  · have := c5 i (hid i hi)
    rw [h1] at this
    simpa using this
  · unfold rho at h1
    split at h1
    · rename_i x hx
      exact (c2 _ (mem_of_lookup hx)).2
    · split at h1
      · exact Nat.lt_of_lt_of_le (by assumption) c1
      · cases h1; omega
  · unfold rho at h1
    split at h1
    · rename_i x hx
      exact (c2 _ (mem_of_lookup hx)).2
    · split at h1 <;> cases h1
theorem Weak.list [Inhabited GlobS] {st : St} {tl : List (Nat × DV)} {l : List (Nat × DObj)} {nx' : Nat} (rl : List (Nat × Option Nat)) (pubs : List Nat) (hc : chkS rl st.base.n st.s.nx nx' (l.map (·.1)) pubs = true)
    (ht : allP (fun p => DW (rho rl st.base.n st.s.nx) st.s (· ∈ pubs) (st.tm p.1) p.2) tl)
    (ho : allP (fun p => match rho rl st.base.n st.s.nx p.1 with
      | some k => (match st.s.ob k with | some o => OW (rho rl st.base.n st.s.nx) st.s (· ∈ pubs) o p.2 | none => False)
      | none => p.2.cells = []) l) : Weak st ⟨st.base, tmOf tl, .of l nx'⟩ := by
  refine Weak.of rfl ?_ (SW.of hc ho) fun t => ?_
  · simp only [chkS, Bool.and_eq_true, decide_eq_true_eq] at hc
    exact hc.1.1.1.1
  · simp only [tmOf]
    cases h : tl.lookup t with
    | none => exact .dead _
    | some d => exact allP_mem ht _ (mem_of_lookup h)
theorem Tri.weakQ [Inhabited GlobS] {P : Program} {N : Nat} {Y : YT} {c : Code} {st : St} {Q Q' : DExit → St → Prop} (h : Tri P N Y c st Q) (hq : ∀ e st', Q e st' → ∃ st'', Weak st' st'' ∧ Q' e st'') : Tri P N Y c st Q' := fun G hN hY β a w R hr hR =>
  h G hN hY β a w R hr fun e st' β' a' w' hQ hr' => by
    obtain ⟨st'', hw, hQ'⟩ := hq e st' hQ
    obtain ⟨β'', hr''⟩ := hw G β' a' w' hr'
    exact hR e st'' β'' a' w' hQ' hr''
def Round [Inhabited GlobS] {ι : Type} (stf : ι → St) (pre : ι → Prop) (μ : ι → Nat) (i : ι) (st : St) : Prop := ∃ j, pre j ∧ μ j < μ i ∧ Weak st (stf j)
theorem Round.go [Inhabited GlobS] {ι : Type} {stf : ι → St} {pre : ι → Prop} {μ : ι → Nat} {i : ι} {st : St} (j : ι → ι) (h1 : pre (j i)) (h2 : μ (j i) < μ i) (h3 : Weak st (stf (j i))) : Round stf pre μ i st := ⟨j i, h1, h2, h3⟩
theorem Tri.loop [Inhabited GlobS] {P : Program} {N : Nat} {Y : YT} {c : Code} {st : St} {Q : DExit → St → Prop} {ι : Type} (stf : ι → St) (pre : ι → Prop) (μ : ι → Nat) (i0 : ι) (hk : codeOk P N c = true) (h0 : Weak st (stf i0)) (hp : pre i0)
    (round : ∀ i, pre i → dcode P N Y c (stf i) (dthen (Round stf pre μ i) Q)) : Tri P N Y (.loop c) st Q := fun G hN hY β a w R hr hR => by
  refine wpIn_ghost (fun n a w => ∃ i β, pre i ∧ μ i = n ∧ Rel G (stf i) β a w) (μ i0) ?_ ?_
  · obtain ⟨β', hr'⟩ := h0 G β a w hr
    exact ⟨i0, β', hp, rfl, hr'⟩
  · intro n a w ⟨i, β, hpi, hn, hr⟩
    refine dcode_sound c hk (round i hpi) G hN hY β a w _ hr fun e st' β' a' w' hq hr' => ?_
    cases e with
    | normal =>
      obtain ⟨j, h1, h2, h3⟩ := hq
      obtain ⟨β'', hr''⟩ := h3 G β' a' w' hr'
      exact ⟨μ j, by omega, j, β'', h1, rfl, hr''⟩
    | exit id => exact hR (.exit id) _ _ _ _ hq hr'
    | goto l => exact hR (.goto l) _ _ _ _ hq hr'
    | ret => exact hR .ret _ _ _ _ hq hr'
noncomputable def drounds [Inhabited GlobS] (P : Program) (N : Nat) (Y : YT) (c : Code) (Q : DExit → St → Prop) (n : Nat) : St → Prop :=
  Nat.rec (motive := fun _ => St → Prop) (fun _ => False) (fun _ ih st => dcode P N Y c st (dthen ih Q)) n
theorem Tri.rounds [Inhabited GlobS] {P : Program} {N : Nat} {Y : YT} {c : Code} {st : St} {Q : DExit → St → Prop} (n : Nat) (hk : codeOk P N c = true) (h : drounds P N Y c Q n st) : Tri P N Y (.loop c) st Q := fun G hN hY β a w R hr hR => by
  refine wpIn_loop_rounds n ?_
  induction n generalizing st β a w with
  | zero => exact h.elim
  | succ n ih =>
    refine dcode_sound c hk h G hN hY β a w _ hr fun e st' β' a' w' hq hr' => ?_
    cases e with
    | normal => exact ih hq β' a' w' hr'
    | exit id => exact hR (.exit id) _ _ _ _ hq hr'
    | goto l => exact hR (.goto l) _ _ _ _ hq hr'
    | ret => exact hR .ret _ _ _ _ hq hr'
theorem DW.int {ρ : Nat → Option Nat} {s : Sto} {pub : Nat → Prop} {k : IntKind} {x y : Int} (h : x = y) : DW ρ s pub (.v (.int k x)) (.v (.int k y)) := by rw [h]; exact .same _ rfl
theorem DW.bool {ρ : Nat → Option Nat} {s : Sto} {pub : Nat → Prop} {x y : Bool} (h : x = y) : DW ρ s pub (.v (.bool x)) (.v (.bool y)) := by rw [h]; exact .same _ rfl
theorem DW.str {ρ : Nat → Option Nat} {s : Sto} {pub : Nat → Prop} {x y : ByteArray} (h : x = y) : DW ρ s pub (.v (.string x)) (.v (.string y)) := by rw [h]; exact .same _ rfl
theorem DW.lstE {ρ : Nat → Option Nat} {s : Sto} {pub : Nat → Prop} {sz : Nat} {x y : List (List DV)} (h : x = y) : DW ρ s pub (.lst sz x) (.lst sz y) := by rw [h]; exact .same _ rfl
def Tells (r0 : DV) (r : DV) (s : Sto) : Prop := DW (fun i => some (i + s.nx)) s (fun _ => True) r r0
theorem Tells.of {r0 r1 r : DV} {s : Sto} (e : r0 = r1) (h : Tells r1 r s) : Tells r0 r s := by rw [e]; exact h
theorem Tells.mk {r0 r : DV} {s : Sto} (h : DW (fun i => some (i + s.nx)) s (fun _ => True) r r0) : Tells r0 r s := h
theorem DFun.data [Inhabited GlobS] {P : Program} {f : FuncId} {args : List DV} {r0 : DV} (h : DFun P f args (Tells r0)) : DPure P f args r0 := fun w F vals hg hF hx =>
  (h w F vals hg hF hx).mono fun e w' ⟨v, r, s', β', he, hd, hs, hv⟩ => by
    have hsw : SW (fun i => some (i + s'.nx)) s' (.of [] 0) 0 (fun _ => True) :=
      ⟨fun i o h => by simp [Sto.of] at h, fun i j k h => by simp [Sto.of] at h, fun i hi => by omega, fun i k h => by simp [Sto.of] at h, fun i k h1 h2 => by cases h1; omega, fun i h => by cases h⟩
    obtain ⟨k1, k2, k3⟩ := hsw.step hs
    exact ⟨v, r0, _, _, he, rfl, k1, k3 hd hv⟩
end Go.Dl
