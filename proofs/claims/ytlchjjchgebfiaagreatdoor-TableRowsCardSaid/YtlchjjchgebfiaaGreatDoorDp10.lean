/-
  The data-level logic, part 10: code, its soundness, calls that are entered.
-/
import Derived.Test.YtlchjjchgebfiaaGreatDoorDp9

namespace Go.Dl
open Go Go.RowKit
theorem RD.cells {w w' : World} {F F' : Nat → Prop} {d : DV} {x : Value} (h : RD w F d x)
    (hw : ∀ b o, F b → (w.cell? ⟨b, o, none⟩).isSome = true → F' b ∧ w'.heap[b]? = w.heap[b]?) : RD w' F' d x := by
  induction h with
  | v x h => exact .v x h
  | lst sz es a b off cap g ha hn hc hm hsz hcell hd ih =>
    refine .lst sz es a b off cap g ha hn hc hm hsz (fun i cs j d h1 h2 => ?_) (fun i cs j d h1 h2 => ih i cs j d h1 h2)
    obtain ⟨h3, h4⟩ := hcell i cs j d h1 h2
    obtain ⟨h5, h6⟩ := hw b _ h4 (by rw [h3]; rfl)
    refine ⟨?_, h5⟩
    rw [World.cell?_of_block (w := w) (a := ⟨b, off + i * sz + j, none⟩) h6]
    exact h3
def Seen (w : World) (b o : Nat) : Prop := (w.cell? ⟨b, o, none⟩).isSome = true ∨ ∃ es c, w.heap[b]? = some (.map es c)
theorem RV.cells {w w' : World} {F F' : Nat → Prop} {β β' : Beta} {d : DV} {x : Value} (h : RV w F β d x)
    (hβ : ∀ i p, β i = some p → β' i = some p)
    (hw : ∀ b o, F b → Seen w b o → F' b ∧ w'.heap[b]? = w.heap[b]?) : RV w' F' β' d x := by
  induction h with
  | data h => exact .data (h.cells fun b o hF ho => hw b o hF (.inl ho))
  | lref sz es i off b o cap h hi => exact .lref sz es i off b o cap (h.cells fun b o hF ho => hw b o hF (.inl ho)) hi
  | ref id off b c h => exact .ref id off b c (hβ _ _ h)
  | arr id len b c h hl => exact .arr id len b c (hβ _ _ h) hl
  | arrNil id h => exact .arrNil id (hβ _ _ h)
  | sub id off len a n h hn hl => exact .sub id off len a n (fun h0 => (by obtain ⟨b, c, h1, h2⟩ := h h0; exact ⟨b, c, hβ _ _ h1, h2⟩)) hn hl
  | agg ds xs hl h ih => exact .agg ds xs hl ih
  | tup ds xs hl h ih => exact .tup ds xs hl ih
  | clo fn ds es xs ys hl hl' h h' ih ih' => exact .clo fn ds es xs ys hl hl' ih ih'
  | ifc t d x h ih => exact .ifc t d x ih
  | mp es b clk h hF =>
    obtain ⟨h1, h2⟩ := hw b 0 hF (.inr ⟨_, _, h⟩)
    exact .mp es b clk (h2.trans h) h1
  | mo id b c h => exact .mo id b c (hβ _ _ h)
  | whn b d x h h0 ih => exact .whn b d x ih h0
  | dead x => exact .dead x
def Ctl (w : World) (b : Nat) : Prop := (∃ r, w.heap[b]? = some (.loop r)) ∨ ∃ ds, w.heap[b]? = some (.deferred ds)
theorem Ctl.none {w : World} {b : Nat} (h : Ctl w b) (o : Nat) : (w.cell? ⟨b, o, none⟩) = none := by
  rcases h with ⟨r, h⟩ | ⟨ds, h⟩ <;> simp [World.cell?, h]
theorem Ctl.unseen {w : World} {b : Nat} (h : Ctl w b) {o : Nat} (hs : Seen w b o) : False := by
  rcases hs with hs | ⟨es, c, hs⟩
  · rw [h.none o] at hs; cases hs
  · rcases h with ⟨r, h⟩ | ⟨ds, h⟩ <;> rw [hs] at h <;> cases h
theorem SRel.putObj [Inhabited GlobS] {w0 : World} {F0 : Nat → Prop} {s : Sto} {β : Beta} {w : World} (h : SRel w0 F0 s β w) {r : Nat} (hr : w0.heap.size ≤ r) (hc : Ctl w r) (x : Obj) :
    SRel w0 F0 s β (w.putObj r x) ∧ (∀ d v, RV w (Fr w0 F0 s β) β d v → RV (w.putObj r x) (Fr w0 F0 s β) β d v) := by
  have hv : ∀ d v, RV w (Fr w0 F0 s β) β d v → RV (w.putObj r x) (Fr w0 F0 s β) β d v := fun d v hd => hd.cells (fun _ _ h => h) fun b o hF ho => ⟨hF, by
    by_cases e : b = r
    · subst e; exact (hc.unseen ho).elim
    · exact World.putObj_heap_other e⟩
  refine ⟨⟨?_, fun i o ho => ?_, h.inj, h.nx, fun b hb => h.up b (by simpa using hb), h.own, h.gl⟩, hv⟩
  · exact ⟨h.below.os, h.below.tape, h.below.output, by simpa using h.below.size, fun k hk => by rw [World.putObj_heap_other (by omega)]; exact h.below.block k hk, h.below.drawn⟩
  · rcases h.obs i o ho with k1 | ⟨b2, c2, cur2, k1, k2, k3, k4, k5, k6, k7⟩
    · exact .inl k1
    · refine .inr ⟨b2, c2, cur2, k1, k2, ?_, k4, k5, k6, fun j dj hj => by
        obtain ⟨y, hy, hr⟩ := k7 j dj hj
        exact ⟨y, hy, hv _ _ hr⟩⟩
      rw [World.putObj_heap_other (fun e => ?_)]
      · exact k3
      · subst e
        rcases blk_is cur2 o.elem with e | ⟨es, clk, e⟩ <;> rw [e] at k3 <;> rcases hc with ⟨r, h⟩ | ⟨ds, h⟩ <;> rw [k3] at h <;> cases h
theorem Ext.putObj {n : Nat} {w0 : World} {X : Nat → Prop} {s s' : Sto} {β β' : Beta} {w w' : World} (h : Ext n w0 X s β w s' β' w') {r : Nat} (hr : w.heap.size ≤ r ∨ X r) (x : Obj) : Ext n w0 X s β w s' β' (w'.putObj r x) :=
  ⟨h.grow, by simpa using h.size, fun b hb hx hu => by
    obtain ⟨k1, k2⟩ := h.fr b hb hx hu
    refine ⟨k1, ?_⟩
    rw [World.putObj_heap_other (fun e => by subst e; rcases hr with hr | hr; exact absurd hb (by omega); exact hx hr)]
    exact k2⟩
theorem Own.putObj {w0 : World} {s : Sto} {β : Beta} {w : World} {b r : Nat} {x : Obj} (h : Own w0 s β w b) : Own w0 s β (w.putObj r x) b := ⟨by simpa using h.1, h.2⟩
theorem Rel.take [Inhabited GlobS] {G : Org} {st : St} {β : Beta} {a : Act} {w : World} {d : Deferred} {ds : List Deferred} (h : Rel G st β a w) (hd : a.defers = d :: ds) :
    ∃ r, d.target = .collected r ∧ w.heap[r]? = some (.deferred (some [])) ∧ Rel G st β { a with defers := ds } (w.putObj r (.deferred none)) := by
  have hdf := h.df
  rw [hd] at hdf
  obtain ⟨r, e, h1, h2, h3, h4⟩ := hdf.all d (List.mem_cons_self ..)
  refine ⟨r, by rw [e], h4, ?_⟩
  obtain ⟨k1, k2⟩ := h.srel.putObj h1.2.1 (.inr ⟨_, h4⟩) (.deferred none)
  refine ⟨k1, h.ext.putObj (.inl h3) _, h.bs, h.nxb, fun t => k2 _ _ (h.tm t), h.size, ⟨fun d' hd' => ?_, (List.pairwise_cons.1 hdf.nd).2, fun h => by have := hdf.rd h; cases this⟩, ?_, ?_⟩
  · obtain ⟨r', e', g1, g2, g3, g4⟩ := hdf.all d' (List.mem_cons_of_mem _ hd')
    refine ⟨r', e', g1.putObj, g2, g3, ?_⟩
    rw [World.putObj_heap_other (fun e2 => (List.pairwise_cons.1 hdf.nd).1 d' hd' (by rw [e, e', e2]))]
    exact g4
  · refine G.hrx _ _ _ _ _ _ _ h.hs fun b x _ hb hx => ⟨hb.putObj, ?_⟩
    rw [World.putObj_heap_other (fun e2 => by rw [e2, h4] at hx; cases hx)]
    exact hx
  · have hh := h.rd
    unfold RdOk at hh ⊢
    split at hh
    · trivial
    · obtain ⟨g1, g2, r', g3⟩ := hh
      refine ⟨g1.putObj, g2, r', ?_⟩
      rw [World.putObj_heap_other (fun e2 => by rw [e2, h4] at g3; cases g3)]
      exact g3
def Tri [Inhabited GlobS] (P : Program) (N : Nat) (Y : YT) (c : Code) (st : St) (Q : DExit → St → Prop) : Prop :=
  ∀ (G : Org) (_ : G.N = N) (_ : YOk P G Y) (β : Beta) (a : Act) (w : World) (R : Exit → Act → World → Prop), Rel G st β a w → (∀ e st' β' a' w', Q e st' → Rel G st' β' a' w' → R e.real a' w') → c.wpIn (Wd G.rd) 0 P R a w
def scalT (P : Program) (t : TypeId) : Bool := match P.underlying t with | some .bool | some (.int _) | some .string => true | _ => false
def hasEff (P : Program) (o : Oper) : Bool :=
  match o.op with
  | .alloc _ | .box .. | .buildSlice .. | .makeSlice .. | .store .. | .makeMap .. | .mapUpdate .. => true
  | .call c => (match c.callee with | .builtin .append | .builtin .clear | .builtin .copy | .builtin .delete => true | .value _ => !scalT P o.type | _ => false)
  | _ => false
def isCallV (o : Oper) : Bool := match o.op with | .call c => (match c.callee with | .value _ => true | _ => false) | _ => false
def opsOk (P : Program) (N : Nat) (ops : Array Oper) (draw : Bool) : Bool :=
  ops.toList.all (fun o => noDefer o && o.dst.all fun t => decide (t < N)) && (!draw || ops.toList.any (hasEff P) || ops.toList.any isCallV || (P.follows .mixedOrders && Region.lexB .any ops))
def codeOk (P : Program) (N : Nat) : Code → Bool
  | .region _ ops draw => opsOk P N ops draw
  | .seq x y => codeOk P N x && codeOk P N y
  | .cond _ x y => codeOk P N x && codeOk P N y
  | .block _ c => codeOk P N c
  | .loop c => codeOk P N c
  | .scope c => codeOk P N c
  | .rangeFunc _ _ x y => codeOk P N x && codeOk P N y
  | _ => true
def dthen (N : St → Prop) (Q : DExit → St → Prop) : DExit → St → Prop
  | .normal, st => N st
  | e, st => Q e st
def dblock (id : Nat) (Q : DExit → St → Prop) : DExit → St → Prop
  | .exit j, st => if j = id then Q .normal st else Q (.exit j) st
  | e, st => Q e st
def Drawn [Inhabited GlobS] (P : Program) (N : Nat) (Y : YT) (id : Nat) (ops : Array Oper) (st : St) (Q : DExit → St → Prop) : Prop :=
  ((P.follows .mixedOrders && Region.lexB .any ops) = true ∧ dops P Y ops true ops.toList st (Q .normal)) ∨ Tri P N Y (.region id ops true) st Q
theorem Drawn.quiet [Inhabited GlobS] {P : Program} {N : Nat} {Y : YT} {id : Nat} {ops : Array Oper} {st : St} {Q : DExit → St → Prop} (h : (P.follows .mixedOrders && Region.lexB .any ops) = true) (k : dops P Y ops true ops.toList st (Q .normal)) : Drawn P N Y id ops st Q := .inl ⟨h, k⟩
theorem Drawn.tree [Inhabited GlobS] {P : Program} {N : Nat} {Y : YT} {id : Nat} {ops : Array Oper} {st : St} {Q : DExit → St → Prop} (h : Tri P N Y (.region id ops true) st Q) : Drawn P N Y id ops st Q := .inr h
theorem Drawn.mark [Inhabited GlobS] {P : Program} {N : Nat} {Y : YT} {id : Nat} {ops : Array Oper} {st : St} {Q : DExit → St → Prop} (h : Drawn P N Y id ops st Q) : Drawn P N Y id ops st Q := h
theorem region_quiet [Inhabited GlobS] {P : Program} {N : Nat} {Y : YT} {id : Nat} {ops : Array Oper} {st : St} {Q : DExit → St → Prop} (hk1 : (ops.toList.all fun o => noDefer o && o.dst.all fun t => decide (t < N)) = true) (hk2 : (P.follows .mixedOrders && Region.lexB .any ops) = true)
    (h2 : dops P Y ops true ops.toList st (Q .normal)) : Tri P N Y (.region id ops true) st Q := by
  intro G hN hY β a w R hr hR
  have hd : ∀ o ∈ ops.toList, (o.dst.all fun t => decide (t < G.N)) = true := fun o ho => by
    rw [hN]; exact (Bool.and_eq_true_iff.1 (List.all_eq_true.1 hk1 o ho)).2
  have hnd : ∀ o ∈ ops.toList, noDefer o = true := fun o ho => (Bool.and_eq_true_iff.1 (List.all_eq_true.1 hk1 o ho)).1
  obtain ⟨h3, h4⟩ := Bool.and_eq_true_iff.1 hk2
  have hb : BelowD w.heap.size w w.drew := ⟨rfl, rfl, rfl, Nat.le_refl _, fun _ _ => rfl, fun _ => Nat.le_succ _⟩
  have hr' := hr.below hb
  exact wpIn_quiet hnd (C := fun w' => BelowD w.drew.heap.size w.drew w') h3 h4 (.refl _ _) (dops_quiet (w := w.drew) _ hd h2 hr' fun st' a' hQ hr'' w' hw' => hR _ _ _ _ _ hQ (hr''.below hw'))
noncomputable def dcode [Inhabited GlobS] (P : Program) (N : Nat) (Y : YT) (c : Code) : St → (DExit → St → Prop) → Prop :=
  Code.rec (motive := fun _ => St → (DExit → St → Prop) → Prop)
    (fun st Q => Q .normal st)
    (fun id ops draw st Q => match draw && ops.toList.any (hasEff P) with
      | true => Tri P N Y (.region id ops draw) st Q
      | false => (match draw && ops.toList.any isCallV with
        | true => Drawn P N Y id ops st Q
        | false => dops P Y ops draw ops.toList st (Q .normal)))
    (fun _ _ x y st Q => x st (dthen (fun st' => y st' Q) Q))
    (fun c _ _ x y st Q => evg true (ev st.tm c) fun
      | .v (.bool b) => (b = true → x st Q) ∧ (b = false → y st Q)
      | _ => False)
    (fun id _ c st Q => c st (dblock id Q))
    (fun c _ st Q => Tri P N Y (.loop c) st Q)
    (fun f ps x y _ _ st Q => Tri P N Y (.rangeFunc f ps x y) st Q)
    (fun id st Q => Q (.exit id) st)
    (fun c _ st Q => Tri P N Y (.scope c) st Q)
    (fun _ st Q => Q .normal st)
    (fun l st Q => Q (.goto l) st)
    (fun st Q => Q .ret st)
    (fun why st Q => Tri P N Y (.refuse why) st Q) c
theorem dcode_sound [Inhabited GlobS] {P : Program} {N : Nat} {Y : YT} : (c : Code) → codeOk P N c = true → {st : St} → {Q : DExit → St → Prop} → dcode P N Y c st Q → Tri P N Y c st Q
  | .skip, _, st, Q, h => fun G hN hY β a w R hr hR => wpIn_skip (hR _ _ _ _ _ h hr)
  | .region id ops draw, hk, st, Q, h0 => by
    have h2 : (match draw && ops.toList.any (hasEff P) with
      | true => Tri P N Y (.region id ops draw) st Q
      | false => (match draw && ops.toList.any isCallV with
        | true => Drawn P N Y id ops st Q
        | false => dops P Y ops draw ops.toList st (Q .normal))) := h0
    clear h0
    simp only [codeOk, opsOk, Bool.and_eq_true] at hk
    obtain ⟨hk1, hk2⟩ := hk
    split at h2
    · exact h2
    · rename_i he
      split at h2
      · rename_i he2
        have hdr : draw = true := by revert he2; cases draw <;> simp
        subst hdr
        rcases h2 with ⟨h3, h2⟩ | h2
        · exact region_quiet hk1 h3 h2
        · exact h2
      · rename_i he2
        intro G hN hY β a w R hr hR
        have hd : ∀ o ∈ ops.toList, (o.dst.all fun t => decide (t < G.N)) = true := fun o ho => by
          rw [hN]; exact (Bool.and_eq_true_iff.1 (List.all_eq_true.1 hk1 o ho)).2
        have hnd : ∀ o ∈ ops.toList, noDefer o = true := fun o ho => (Bool.and_eq_true_iff.1 (List.all_eq_true.1 hk1 o ho)).1
        cases draw with
        | false => exact wpIn_list (dops_sound hY _ hnd hd h2 hr fun st' β' a' w' hQ hr' => hR _ _ _ _ _ hQ hr')
        | true =>
          simp only [Bool.true_and] at he he2
          rw [he, he2] at hk2
          simp only [Bool.not_true, Bool.false_or] at hk2
          exact region_quiet (id := id) hk1 hk2 h2 G hN hY β a w R hr hR
  | .seq x y, hk, st, Q, h => fun G hN hY β a w R hr hR => wpIn_seq (dcode_sound x (Bool.and_eq_true_iff.1 hk).1 h G hN hY β a w _ hr fun e st' β' a' w' hQ hr' => by
    cases e with
    | normal => exact dcode_sound y (Bool.and_eq_true_iff.1 hk).2 hQ G hN hY β' a' w' R hr' hR
    | exit id => exact hR _ _ _ _ _ hQ hr'
    | goto l => exact hR _ _ _ _ _ hQ hr'
    | ret => exact hR _ _ _ _ _ hQ hr')
  | .cond c x y, hk, st, Q, h => fun G hN hY β a w R hr hR => by
    obtain ⟨d, h, hd⟩ := evg_sound _ h
    split at h
    · rename_i b
      have e := rv_v (hd rfl _ _ _ _ (hr.ev c))
      refine wpIn_cond e ?_
      cases b with
      | true => exact dcode_sound x (Bool.and_eq_true_iff.1 hk).1 (h.1 rfl) G hN hY β a w R hr hR
      | false => exact dcode_sound y (Bool.and_eq_true_iff.1 hk).2 (h.2 rfl) G hN hY β a w R hr hR
    · exact h.elim
  | .block id c, hk, st, Q, h => fun G hN hY β a w R hr hR => wpIn_block (dcode_sound c hk h G hN hY β a w _ hr fun e st' β' a' w' hQ hr' => by
    cases e with
    | normal => exact hR .normal _ _ _ _ hQ hr'
    | exit j =>
      simp only [DExit.real, Exit.inBlock]
      simp only [dblock] at hQ
      split
      · rename_i e; rw [if_pos e] at hQ; exact hR .normal _ _ _ _ hQ hr'
      · rename_i e; rw [if_neg e] at hQ; exact hR (.exit j) _ _ _ _ hQ hr'
    | goto l => exact hR (.goto l) _ _ _ _ hQ hr'
    | ret => exact hR .ret _ _ _ _ hQ hr')
  | .exit id, _, st, Q, h => fun G hN hY β a w R hr hR => wpIn_exit (hR (.exit id) _ _ _ _ h hr)
  | .goto l, _, st, Q, h => fun G hN hY β a w R hr hR => wpIn_goto (hR (.goto l) _ _ _ _ h hr)
  | .label l, _, st, Q, h => fun G hN hY β a w R hr hR => wpIn_label (hR _ _ _ _ _ h hr)
  | .ret, _, st, Q, h => fun G hN hY β a w R hr hR => wpIn_ret (hR .ret _ _ _ _ h hr)
  | .loop b, _, st, Q, h => h
  | .rangeFunc .., _, st, Q, h => h
  | .scope b, _, st, Q, h => h
  | .refuse _, _, st, Q, h => h
def entryTm : Nat → List DV → (Nat → DV) → (Nat → DV)
  | _, [], f => f
  | k, d :: ds, f => entryTm (k + 1) ds (upd f k d)
theorem entryTm_get (ds : List DV) : ∀ (k : Nat) (f : Nat → DV) (t : Nat), entryTm k ds f t = if h : k ≤ t ∧ t - k < ds.length then ds[t - k]'h.2 else f t := by
  induction ds with
  | nil => intro k f t; simp [entryTm]
  | cons d ds ih =>
    intro k f t
    rw [entryTm, ih]
    by_cases h1 : t = k
    · subst h1
      rw [dif_neg (by omega)]
      simp
    · by_cases h2 : k ≤ t ∧ t - k < ds.length + 1
      · have h3 : k + 1 ≤ t ∧ t - (k + 1) < ds.length := by omega
        rw [dif_pos h3, dif_pos (by simpa using h2)]
        have : t - k = (t - (k + 1)) + 1 := by omega
        simp [this]
      · have h3 : ¬ (k + 1 ≤ t ∧ t - (k + 1) < ds.length) := by omega
        rw [dif_neg h3, dif_neg (by simpa using h2), upd_ne _ _ _ h1]
noncomputable def dress (P : Program) (rs : List ResultVar) (st : St) : (List DV → Prop) → Prop :=
  List.rec (motive := fun _ => (List DV → Prop) → Prop) (fun K => K [])
    (fun r _ next K => match r with
      | .tmp t => next fun ds => K (st.tm t :: ds)
      | .cell t T => (match st.tm t with
        | .ref id off => (match st.s.ob id with | some o => cellsO o.elem (dload P T o.cells off true fun d => next fun ds => K (d :: ds)) | none => False)
        | _ => False)) rs
def dout (K : DV → Sto → Prop) (s : Sto) : List DV → Prop
  | [d] => K d s
  | ds => K (.tup ds) s
noncomputable def dend (P : Program) (rs : List ResultVar) (K : DV → Sto → Prop) : DExit → St → Prop
  | .normal, st | .ret, st => dress P rs st (dout K st.s)
  | _, _ => False
def resF (tmps : Array Value) : ResultVar → Sem Value
  | .tmp t => pure (tmps.getD t undef)
  | .cell b t => do loadVar t (← asAddr (tmps.getD b undef))
theorem results_eq (fn : Func) (tmps : Array Value) : results fn tmps = (fn.results.mapM (resF tmps)) >>= fun vs => pure (if h : vs.size = 1 then vs[0] else .tuple vs) := rfl
theorem run_results [Inhabited GlobS] {P : Program} {rs : List ResultVar} {G : Org} {st : St} {β : Beta} {a : Act} {w : World} (hr : Rel G st β a w) : ∀ {K : List DV → Prop}, dress P rs st K →
    ∃ ds xs, K ds ∧ Pw w (Fr G.w0 G.F0 st.s β) β ds xs ∧ (rs.mapM (resF a.tmps)).run P w = .ok xs w := by
  induction rs with
  | nil => intro K h; exact ⟨[], [], h, .nil, by simp⟩
  | cons r rs ih =>
    intro K h
    cases r with
    | tmp t =>
      obtain ⟨ds, xs, h1, h2, h3⟩ := ih h
      exact ⟨_, _, h1, h2.cons (hr.tm t), by simp only [List.mapM_cons, resF, Sem.run_bind, Sem.run_pure, Result.andThen_ok, h3]⟩
    | cell t T =>
      simp only [dress] at h
      split at h
      · rename_i id off htm
        split at h
        · rename_i o hob
          obtain ⟨hm, h⟩ := cellsO_is h
          obtain ⟨d, h1, h2⟩ := dload_sound h
          obtain ⟨ds, xs, h3, h4, h5⟩ := ih h1
          have ht := hr.tm t
          rw [htm] at ht
          obtain ⟨b, c, hb, he⟩ := rv_ref ht
          rcases hr.srel.obs id o hob with g | ⟨b', c', cur, g1, g2, g3, g4, g5, g6, g7⟩
          · rw [g.1] at hb; cases hb
          rw [g1] at hb
          simp only [Option.some.injEq, Prod.mk.injEq] at hb
          obtain ⟨rfl, rfl⟩ := hb
          rw [blk_cells hm] at g3
          obtain ⟨v, hv, hrun⟩ := h2 rfl w (Fr G.w0 G.F0 st.s β) β b' 0 cur.toList (fun j dj hj => by
            obtain ⟨y, hy, hry⟩ := g7 j dj hj
            exact ⟨y, by simpa using hy, by simpa [World.cell?, g3] using hy, hry⟩)
          have := hrun w (fun _ => rfl)
          simp only [Nat.zero_add] at this
          have hA : (asAddr (a.tmps.getD t undef)).run P w = .ok ⟨b', off, none⟩ w := by rw [he]; rfl
          exact ⟨_, _, h3, h4.cons hv, by simp only [List.mapM_cons, resF, Sem.run_bind, hA, Sem.run_pure, Result.andThen_ok, this, h5]⟩
        · exact h.elim
      · exact h.elim
theorem run_out [Inhabited GlobS] {P : Program} {fn : Func} {G : Org} {st : St} {β : Beta} {a : Act} {w : World} (hr : Rel G st β a w) {K : DV → Sto → Prop} (h : dress P fn.results.toList st (dout K st.s)) :
    ∃ v d, (results fn a.tmps).run P w = .ok v w ∧ K d st.s ∧ RV w (Fr G.w0 G.F0 st.s β) β d v := by
  obtain ⟨ds, xs, h1, h2, h3⟩ := run_results hr h
  have hrun : (results fn a.tmps).run P w = .ok (if h : xs.toArray.size = 1 then xs.toArray[0] else .tuple xs.toArray) w := by
    have : (fn.results.mapM (resF a.tmps)).run P w = .ok xs.toArray w := by
      rw [Array.mapM_eq_mapM_toList, Sem.run_map, h3]
      rfl
    rw [results_eq, Sem.run_bind, this]
    rfl
  match ds, xs, h2, h1, hrun with
  | [d], [x], h2, h1, hrun => exact ⟨_, d, hrun, h1, by simpa using h2.2 0 d x rfl rfl⟩
  | [], xs, h2, h1, hrun =>
    have : xs = [] := List.length_eq_zero_iff.1 h2.1.symm
    subst this
    exact ⟨_, .tup [], hrun, h1, .tup [] [] rfl h2.2⟩
  | d :: d' :: ds, xs, h2, h1, hrun =>
    refine ⟨_, .tup (d :: d' :: ds), hrun, h1, ?_⟩
    have : xs.toArray.size ≠ 1 := by have := h2.1; simp at this ⊢; omega
    rw [dif_neg this]
    exact .tup _ _ h2.1 h2.2
theorem entry_rv {w : World} {F : Nat → Prop} {β : Beta} {args : List DV} {vals : List Value} (hx : Pw w F β args vals) (N : Nat) (t : Nat) :
    RV w F β (entryTm 0 args (fun _ => .dead) t) ((vals.toArray ++ Array.replicate (N - vals.toArray.size) undef).getD t undef) := by
  have hvl : vals.length = args.length := hx.1.symm
  simp only [entryTm_get, Nat.zero_le, Nat.sub_zero, true_and]
  split
  · rename_i ht
    have ht' : t < vals.length := by omega
    rw [Array.getD_eq_getD_getElem?, Array.getElem?_append_left (by simpa using ht')]
    simp only [List.getElem?_toArray, List.getElem?_eq_getElem ht', Option.getD_some]
    exact hx.2 t _ _ (List.getElem?_eq_getElem ht) (List.getElem?_eq_getElem ht')
  · exact .dead _
theorem leaves_marks [Inhabited GlobS] {P : Program} {fn : Func} {F : Fence} {G : Org} {st : St} {β : Beta} {R : Ending → World → Prop} (ds : List Deferred) : ∀ {a : Act} {w : World}, a.defers = ds → Rel G st β a w →
    (∀ w', Rel G st β { a with defers := [] } w' → ∃ v, (results fn a.tmps).run P w' = .ok v w' ∧ R (.returned v) w') → LeavesInM F 0 P fn a.tmps R ds .returning w := by
  induction ds with
  | nil => intro a w hd hr h; exact h w (by rw [← hd]; exact hr)
  | cons d ds ih =>
    intro a w hd hr h
    obtain ⟨r, h1, h2, h3⟩ := hr.take hd
    refine ⟨by simp, .inl ⟨r, _, h1, run_takeDeferred h2, ?_⟩⟩
    exact ih (a := { a with defers := ds }) rfl h3 h
theorem calls_body [Inhabited GlobS] {P : Program} {f : FuncId} {fn : Func} {c : Code} {Y : YT} {G : Org} {st0 : St} {β : Beta} {w : World} {vals : List Value} {Q : DExit → St → Prop} {R : Ending → World → Prop}
    (hf : P.funcs[f]? = some fn) (hb : fn.body = some c) (hk : codeOk P fn.ntmps c = true) (hN : G.N = fn.ntmps) (hrd : G.rd = none) (hY : YOk P G Y)
    (hr : Rel G st0 β { tmps := vals.toArray ++ Array.replicate (fn.ntmps - vals.toArray.size) undef, defers := [] } w)
    (h : dcode P fn.ntmps Y c st0 Q) (hq : ∀ e st, Q e st → e = .normal ∨ e = .ret)
    (hR : ∀ e st' β' a' w', Q e st' → Rel G st' β' a' w' → ∃ v, (results fn a'.tmps).run P w' = .ok v w' ∧ R (.returned v) w') : Calls P f vals.toArray w R := by
  refine callsOfWd (r := none) (n := 0) (callsIn_of_wp_marks hf hb trivial ?_)
  have := dcode_sound c hk h G hN hY β _ w (bodyPostM (Wd none) 0 P fn R) hr fun e st' β' a' w' hQ hr' => by
    have := leaves_marks (F := Wd none) (fn := fn) (R := R) a'.defers rfl hr' (fun w2 h2 => hR e st' β' { a' with defers := [] } w2 hQ h2)
    rcases hq _ _ hQ with rfl | rfl
    · exact this
    · exact this
  rw [hrd] at this
  exact this
theorem SCall.run [Inhabited GlobS] {P : Program} {f : FuncId} {fn : Func} {c : Code} {args : List DV} {s : Sto} {K : DV → Sto → Prop} (hf : P.funcs[f]? = some fn) (hb : fn.body = some c) (hn : args.length ≤ fn.ntmps) (hk : codeOk P fn.ntmps c = true)
    (h : dcode P fn.ntmps noY c ⟨⟨s.nx, []⟩, entryTm 0 args (fun _ => .dead), s⟩ (dend P fn.results.toList K)) : SCall P f args s K := by
  intro w0 F0 β w vals hs hx
  let G : Org := ⟨fn.ntmps, w0, F0, s.nx, s, β, w, nX, fun _ _ h => h, fun _ h => h.elim, fun _ _ _ c => c = [], fun _ _ _ _ _ _ _ h _ => h, none⟩
  have hvl : vals.length = args.length := hx.1.symm
  have hr : Rel G ⟨⟨s.nx, []⟩, entryTm 0 args (fun _ => .dead), s⟩ β { tmps := vals.toArray ++ Array.replicate (fn.ntmps - vals.toArray.size) undef, defers := [] } w :=
    ⟨hs, .refl, Nat.le_refl _, Nat.le_refl _, entry_rv hx _, by simp [G]; omega, ⟨fun d hd => by simp at hd, .nil, fun _ => rfl⟩, rfl, trivial⟩
  refine calls_body hf hb hk (G := G) rfl rfl noY_ok hr h (fun e st hQ => ?_) fun e st' β' a' w' hQ hr' => ?_
  · cases e with
    | normal => exact .inl rfl
    | ret => exact .inr rfl
    | exit id => exact hQ.elim
    | goto l => exact hQ.elim
  · have hQ : dress P fn.results.toList st' (dout K st'.s) := by
      cases e with
      | normal => exact hQ
      | ret => exact hQ
      | exit id => exact hQ.elim
      | goto l => exact hQ.elim
    obtain ⟨v, d, h1, h2, h3⟩ := run_out hr' hQ
    exact ⟨v, h1, v, d, st'.s, β', rfl, h2, hr'.srel, hr'.ext, hr'.nxb, h3⟩
def Sto.empty : Sto := ⟨fun _ => none, 0⟩
theorem SRel.empty [Inhabited GlobS] (w : World) (F : Nat → Prop) (hg : Gok w) (hF : ∀ b, w.heap.size ≤ b → F b) : SRel w F .empty (fun _ => none) w :=
  ⟨.refl _ _, fun i o h => (by cases h), fun i j b c c' h => (by cases h), fun _ _ => ⟨rfl, rfl⟩, hF, fun i b c h => (by cases h), hg⟩
theorem DFun.of_scall [Inhabited GlobS] {P : Program} {f : FuncId} {args : List DV} {Q : DV → Sto → Prop} (h : SCall P f args .empty Q) : DFun P f args Q := fun w F vals hg hF hx =>
  (h w F (fun _ => none) w vals (.empty w F hg hF) ⟨hx.1, fun i d y h1 h2 => (hx.2 i d y h1 h2).mono (fun _ _ h => h) (fun _ hb hF => ⟨⟨hF, .inl hb⟩, rfl⟩)⟩).mono
    fun _ _ ⟨v, r, s', β', he, hQ, k1, _, _, k4⟩ => ⟨v, r, s', β', he, hQ, k1, k4⟩
theorem DFun.run [Inhabited GlobS] {P : Program} {f : FuncId} {fn : Func} {c : Code} {args : List DV} {Q : DV → Sto → Prop} (hf : P.funcs[f]? = some fn) (hb : fn.body = some c) (hn : args.length ≤ fn.ntmps) (hk : codeOk P fn.ntmps c = true)
    (h : dcode P fn.ntmps noY c ⟨0, entryTm 0 args (fun _ => .dead), .empty⟩ (dend P fn.results.toList Q)) : DFun P f args Q :=
  .of_scall (.run hf hb hn hk h)
def noId0 : DV → Bool
  | .v _ | .lst .. | .lref .. | .mp _ | .dead => true
  | _ => false
def noId1 : DV → Bool
  | .v _ | .lst .. | .lref .. | .mp _ | .dead => true
  | .clo _ ds es => ds.all noId0 && es.all noId0
  | .ifc _ .dead => true
  | _ => false
def noId2 : DV → Bool
  | .agg cs => cs.all noId1
  | d => noId1 d
def noIds : DV → Bool
  | .agg cs => cs.all noId1
  | .tup cs => cs.all noId2
  | d => noId1 d
theorem rv_noId0 {w w' : World} {F F' : Nat → Prop} {β β' : Beta} {d : DV} {x : Value} (h : RV w F β d x) (hd : noId0 d = true) (hw : ∀ b, b < w.heap.size → F b → F' b ∧ w'.heap[b]? = w.heap[b]?) : RV w' F' β' d x := by
  cases h with
  | data h => exact .data (h.mono hw)
  | lref sz es i off b o cap h hi => exact .lref sz es i off b o cap (h.mono hw) hi
  | dead => exact .dead _
  | mp es b clk h hF =>
    obtain ⟨h1, h2⟩ := hw b (Array.getElem?_eq_some_iff.1 h).1 hF
    exact .mp es b clk (h2.trans h) h1
  | _ => cases hd
theorem rv_noId1 {w w' : World} {F F' : Nat → Prop} {β β' : Beta} {d : DV} {x : Value} (h : RV w F β d x) (hd : noId1 d = true) (hw : ∀ b, b < w.heap.size → F b → F' b ∧ w'.heap[b]? = w.heap[b]?) : RV w' F' β' d x := by
  cases h with
  | data h => exact .data (h.mono hw)
  | lref sz es i off b o cap h hi => exact .lref sz es i off b o cap (h.mono hw) hi
  | dead => exact .dead _
  | mp es b clk h hF =>
    obtain ⟨h1, h2⟩ := hw b (Array.getElem?_eq_some_iff.1 h).1 hF
    exact .mp es b clk (h2.trans h) h1
  | clo fn ds es xs ys hl hl' h h' =>
    have hd : (ds.all noId0 && es.all noId0) = true := hd
    rw [Bool.and_eq_true] at hd
    exact .clo _ ds es xs ys hl hl' (fun i d x h1 h2 => rv_noId0 (h i d x h1 h2) (List.all_eq_true.1 hd.1 d (List.mem_of_getElem? h1)) hw) (fun i d x h1 h2 => rv_noId0 (h' i d x h1 h2) (List.all_eq_true.1 hd.2 d (List.mem_of_getElem? h1)) hw)
  | ifc t d x h =>
    cases d with
    | dead => exact .ifc _ _ _ (.dead _)
    | _ => cases hd
  | _ => cases hd
theorem rv_noId2 {w w' : World} {F F' : Nat → Prop} {β β' : Beta} {d : DV} {x : Value} (h : RV w F β d x) (hd : noId2 d = true) (hw : ∀ b, b < w.heap.size → F b → F' b ∧ w'.heap[b]? = w.heap[b]?) : RV w' F' β' d x := by
  unfold noId2 at hd
  split at hd
  · obtain ⟨xs, rfl, hl, hp⟩ := rv_agg h
    exact .agg _ _ hl fun i d x h1 h2 => rv_noId1 (hp i d x h1 h2) (List.all_eq_true.1 hd d (List.mem_of_getElem? h1)) hw
  · exact rv_noId1 h hd hw
theorem rv_noIds {w w' : World} {F F' : Nat → Prop} {β β' : Beta} {d : DV} {x : Value} (h : RV w F β d x) (hd : noIds d = true) (hw : ∀ b, b < w.heap.size → F b → F' b ∧ w'.heap[b]? = w.heap[b]?) : RV w' F' β' d x := by
  unfold noIds at hd
  split at hd
  · obtain ⟨xs, rfl, hl, hp⟩ := rv_agg h
    exact .agg _ _ hl fun i d x h1 h2 => rv_noId1 (hp i d x h1 h2) (List.all_eq_true.1 hd d (List.mem_of_getElem? h1)) hw
  · obtain ⟨xs, rfl, hl, hp⟩ := rv_tup h
    exact .tup _ _ hl fun i d x h1 h2 => rv_noId2 (hp i d x h1 h2) (List.all_eq_true.1 hd d (List.mem_of_getElem? h1)) hw
  · exact rv_noId1 h hd hw
theorem SRel.frUp [Inhabited GlobS] {w0 w : World} {F0 : Nat → Prop} {s : Sto} {β : Beta} (hs : SRel w0 F0 s β w) : ∀ b, w.heap.size ≤ b → Fr w0 F0 s β b := fun b hb => ⟨hs.up b hb, .inr ⟨Nat.le_trans hs.below.size hb, fun i c hi hβ => by
  obtain ⟨o, ho⟩ := Option.isSome_iff_exists.1 hi
  rcases hs.obs i o ho with g | ⟨b', c', cur, g1, g2, g3, _⟩
  · rw [g.1] at hβ; cases hβ
  · rw [g1] at hβ
    simp only [Option.some.injEq, Prod.mk.injEq] at hβ
    have := (Array.getElem?_eq_some_iff.1 g3).1
    omega⟩⟩
theorem SCall.data [Inhabited GlobS] {P : Program} {f : FuncId} {args : List DV} {s : Sto} {K : DV → Sto → Prop} {r : DV} (h : DPure P f args r) (hargs : args.all noIds = true) (hr : noIds r = true) (hK : K r s) : SCall P f args s K := by
  intro w0 F0 β w vals hs hx
  refine (h w (Fr w0 F0 s β) vals hs.gok hs.frUp ⟨hx.1, fun i d y h1 h2 => rv_noIds (hx.2 i d y h1 h2) (List.all_eq_true.1 hargs d (List.mem_of_getElem? h1)) (fun b _ hF => ⟨hF, rfl⟩)⟩).mono fun e w' ⟨v, r', s', β', he, hq, hs', hv⟩ => ?_
  subst hq
  obtain ⟨k1, k2⟩ := hs.below' hs'.below
  refine ⟨v, _, s, β, he, hK, k1, k2 _, Nat.le_refl _, rv_noIds hv hr fun b hb hF => ⟨?_, rfl⟩⟩
  exact hF.1
end Go.Dl


