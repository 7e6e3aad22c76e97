/-
  The data-level logic, part 9: steps, regions, code ('dcode'); soundness; calls entered.
-/
import Derived.Test.YtlchjjchgebfiaaGreatDoorDp8

namespace Go.Dl
open Go Go.RowKit
def dyield (d : DV) (want : Bool) (K : Bool → Prop) : Prop :=
  match d with
  | .v (.bool b) => K (b == want)
  | .when t (.v (.bool b)) => K (t && (b == want))
  | _ => False
def dgd (ops : Array Oper) (o : Oper) (tm : Nat → DV) (K : Bool → Prop) : Prop :=
  match o.guard with
  | none => K true
  | some (j, want) => match (ops[j]?).bind (·.dst) with
    | some t => dyield (tm t) want K
    | none => False
def gwhen (g : Bool) (d : DV) : DV := match d with | .when t d' => .when (g && t) d' | d => .when g d
def gw (o : Oper) (g : Bool) (d : DV) : DV := match o.guard with | none => d | some _ => gwhen g d
def entersB (P : Program) (f : FuncId) : Bool :=
  match P.funcs[f]? with
  | some fn => fn.name != "runtime.NumGoroutine" && fn.body.isSome
  | none => false
noncomputable def evgs (g : Bool) (ds : List DV) : (List DV → Prop) → Prop :=
  List.rec (motive := fun _ => (List DV → Prop) → Prop) (fun K => K []) (fun d _ next K => evg g d fun d' => next fun ds' => K (d' :: ds')) ds
noncomputable def deff [Inhabited GlobS] (P : Program) (quiet : Bool) (o : Oper) (g : Bool) (st : St) (K : St → Prop) : Prop :=
  quiet = false ∧ (g = true → de P st.s (ev st.tm) o.op fun d s' => K ((st.setS s').put o.dst d)) ∧ (g = false → K (st.put o.dst .dead))
def YT : Type := Nat → List DV → List DExit → Sto → (Bool → List DExit → Sto → Prop) → Prop
def noY : YT := fun _ _ _ _ _ => False
def YOk [Inhabited GlobS] (P : Program) (G : Org) (Y : YT) : Prop :=
  ∀ (l : Nat) (ds : List DV) (c : List DExit) (s : Sto) (K : Bool → List DExit → Sto → Prop), Y l ds c s K → ∀ (β : Beta) (w : World) (vals : List Value), SRel G.w0 G.F0 s β w → Ext G.n G.w0 G.X G.s G.β G.w s β w → G.n ≤ s.nx → G.hr s β w c →
    Pw w (Fr G.w0 G.F0 s β) β ds vals → ∃ r : Loop, w.heap[l]? = some (.loop r) ∧ vals.length = r.params.size ∧
      RoundIn (Wd G.rd) 0 P l r.fn ((r.params.zip vals.toArray).foldl (fun tmps (t, a) => tmps.setIfInBounds t a) r.tmps) r.assign r.body w fun e w' =>
        ∃ b c' s' β', e = .returned (.bool b) ∧ K b c' s' ∧ SRel G.w0 G.F0 s' β' w' ∧ Ext s.nx G.w0 G.X s β w s' β' w' ∧ s.nx ≤ s'.nx ∧ G.hr s' β' w' c'
theorem noY_ok [Inhabited GlobS] {P : Program} {G : Org} : YOk P G noY := fun _ _ _ _ _ h => h.elim
noncomputable def dstep [Inhabited GlobS] (P : Program) (Y : YT) (ops : Array Oper) (quiet : Bool) (o : Oper) (st : St) (K : St → Prop) : Prop :=
  dgd ops o st.tm fun g => (match o.op with
    | .alloc _ | .box .. | .buildSlice .. | .makeSlice .. | .store .. | .makeMap .. | .mapUpdate .. => deff P quiet o g st K
    | .call c => (match c.callee with
      | .value f => evg g (ev st.tm f) fun df => (match df with
        | .clo (.func fid) first cap => (g = true → entersB P fid = true) ∧ evgs g (c.args.toList.map (ev st.tm)) fun das => (match quiet, o.guard with
          | false, none => SCall P fid (first ++ das ++ cap) st.s fun r s' => K ((st.setS s').put o.dst r)
          | false, some _ => GCall P fid (first ++ das ++ cap) st.s g (fun r => K (st.put o.dst (gw o g r))) (fun r s' => K ((st.setS s').put o.dst r)) (K (st.put o.dst .dead))
          | true, _ => PCall P fid (first ++ das ++ cap) st.s g fun r => K (st.put o.dst (gw o g r)))
        | .clo (.yield l) [] [] => quiet = false ∧ evgs g (c.args.toList.map (ev st.tm)) fun das =>
          (g = true → Y l das st.base.c st.s fun b c' s' => K ((St.mk ⟨st.base.n, c'⟩ st.tm s').put o.dst (.v (.bool b)))) ∧ (g = false → K (st.put o.dst .dead))
        | _ => False)
      | .builtin .append | .builtin .clear | .builtin .copy | .builtin .delete => deff P quiet o g st K
      | _ => dq P st.s (ev st.tm) g o.op fun d => K (st.put o.dst (gw o g d)))
    | op => dq P st.s (ev st.tm) g op fun d => K (st.put o.dst (gw o g d)))
noncomputable def dops [Inhabited GlobS] (P : Program) (Y : YT) (ops : Array Oper) (quiet : Bool) (l : List Oper) : St → (St → Prop) → Prop :=
  List.rec (motive := fun _ => St → (St → Prop) → Prop) (fun st K => K st) (fun o _ next st K => dstep P Y ops quiet o st fun st' => next st' K) l
theorem SRel.obsF [Inhabited GlobS] {w0 : World} {F0 : Nat → Prop} {s : Sto} {β : Beta} {w : World} (h : SRel w0 F0 s β w) : ObsF w0 (Fr w0 F0 s β) s β w := h.obs
theorem dyield_sound (d : DV) {want : Bool} {K : Bool → Prop} (h : dyield d want K) : ∃ g, K g ∧ ∀ w F β x, RV w F β d x → ((match some x with | some (Value.bool b) => some b | _ => none) == some want) = g := by
  unfold dyield at h
  split at h
  · rename_i b
    exact ⟨b == want, h, fun w F β x hx => by rw [rv_v hx]; rfl⟩
  · rename_i t b
    refine ⟨t && (b == want), h, fun w F β x hx => ?_⟩
    cases hx with
    | data h => cases h
    | whn _ _ _ h1 h2 =>
      cases t with
      | true => rw [rv_v (h1 rfl)]; rfl
      | false => rw [h2 rfl]; rfl
  · exact h.elim
theorem rv_gwhen {w : World} {F : Nat → Prop} {β : Beta} {g : Bool} {d : DV} {x : Value} (h1 : g = true → RV w F β d x) (h2 : g = false → x = undef) : RV w F β (gwhen g d) x := by
  unfold gwhen
  split
  · rename_i t d'
    refine .whn _ _ _ (fun e => ?_) (fun e => ?_)
    · simp only [Bool.and_eq_true] at e
      have := h1 e.1
      cases this with
      | data h => cases h
      | whn _ _ _ k1 k2 => exact k1 e.2
    · cases g with
      | false => exact h2 rfl
      | true =>
        have := h1 rfl
        cases this with
        | data h => cases h
        | whn _ _ _ k1 k2 => exact k2 (by simpa using e)
  · exact .whn _ _ _ h1 h2
theorem dgd_sound {ops : Array Oper} {o : Oper} {tm : Nat → DV} {K : Bool → Prop} (h : dgd ops o tm K) :
    ∃ g, K g ∧ (o.guard = none → g = true) ∧ ∀ w F β (a : Act), (∀ t, RV w F β (tm t) (a.tmps.getD t undef)) → Region.wanted o (yielded ops a.tmps) = g := by
  unfold dgd at h
  split at h
  · rename_i hg
    exact ⟨true, h, fun _ => rfl, fun w F β a _ => by simp [Region.wanted, hg]⟩
  · rename_i j want hg
    split at h
    · rename_i t ht
      obtain ⟨g, h1, h2⟩ := dyield_sound _ h
      refine ⟨g, h1, fun e => (by rw [hg] at e; cases e), fun w F β a hr => ?_⟩
      have := h2 w F β _ (hr t)
      simp only [Region.wanted, hg, yielded, ht, Option.bind_some]
      rw [← this]
      by_cases hlt : t < a.tmps.size
      · simp only [Array.getElem?_eq_getElem hlt, Array.getD_eq_getD_getElem?, Option.getD_some]
        generalize a.tmps[t] = x
        cases x <;> rfl
      · simp only [Array.getElem?_eq_none (Nat.le_of_not_lt hlt), Array.getD_eq_getD_getElem?, Option.getD_none]
        rfl
    · exact h.elim
theorem evgs_sound {g : Bool} : (ds : List DV) → {K : List DV → Prop} → evgs g ds K → ∃ ds', K ds' ∧ (g = true → ∀ w F β xs, Pw w F β ds xs → Pw w F β ds' xs)
  | [], K, h => ⟨[], h, fun _ _ _ _ _ h => h⟩
  | d :: ds, K, h => by
    obtain ⟨d', h1, h2⟩ := evg_sound _ h
    obtain ⟨ds', h3, h4⟩ := evgs_sound ds h1
    refine ⟨_, h3, fun hg w F β xs hx => ?_⟩
    cases xs with
    | nil => have := hx.1; simp at this
    | cons x xs =>
      obtain ⟨k1, k2⟩ := hx.tail
      exact (h4 hg _ _ _ _ k2).cons (h2 hg _ _ _ _ k1)
theorem run_callFunc {P : Program} {f : FuncId} (h : entersB P f = true) (args : Array Value) (w : World) : (callFunc f args).run P w = .ok (.enter f args) w := by
  unfold entersB at h
  split at h
  · rename_i fn hf
    simp only [Bool.and_eq_true, bne_iff_ne, ne_eq, Option.isSome_iff_exists] at h
    obtain ⟨h1, c, h2⟩ := h
    simp [callFunc, hf, h1, h2]
  · cases h
theorem run_call {P : Program} {f : FuncId} (h : entersB P f = true) {a : Act} {o : Oper} {c : Call} {x : Operand} (ho : o.op = .call c) (hc : c.callee = .value x) {xs ys : List Value} (hx : a.eval x = .func (.func f) xs.toArray ys.toArray) (w : World) :
    (execOp a.eval o).run P w = .ok (.enter f (xs ++ c.args.toList.map a.eval ++ ys).toArray) w := by
  have e : c.args.map a.eval = (c.args.toList.map a.eval).toArray := by rw [← Array.toList_map, Array.toArray_toList]
  simp only [execOp, ho, resolve, hc, hx, Deferred.ofValue, invoke, Sem.run_bind, Sem.run_pure, Result.andThen_ok, e, List.append_toArray, run_callFunc h]
theorem pw_append {w : World} {F : Nat → Prop} {β : Beta} {ds es : List DV} {xs ys : List Value} (h : Pw w F β ds xs) (k : Pw w F β es ys) : Pw w F β (ds ++ es) (xs ++ ys) := by
  refine ⟨by simp [h.1, k.1], fun i d y h1 h2 => ?_⟩
  rw [List.getElem?_append] at h1 h2
  rw [h.1] at h1
  split at h1
  · rename_i hi; rw [if_pos hi] at h2; exact h.2 i d y h1 h2
  · rename_i hi; rw [if_neg hi] at h2; exact k.2 _ d y h1 h2
theorem pw_ev {w : World} {F : Nat → Prop} {β : Beta} {tm : Nat → DV} {ev' : Operand → Value} (h : ∀ x, RV w F β (ev tm x) (ev' x)) (xs : List Operand) : Pw w F β (xs.map (ev tm)) (xs.map ev') :=
  ⟨by simp, rv_map (ρ := ev tm) xs ev' h⟩
theorem run_yieldCall {P : Program} {a : Act} {o : Oper} {c : Call} {x : Operand} {l : Nat} (ho : o.op = .call c) (hc : c.callee = .value x) (hx : a.eval x = .func (.yield l) ([] : List Value).toArray ([] : List Value).toArray) {w : World} {r : Loop} (hl : w.heap[l]? = some (.loop r))
    (hs : (c.args.toList.map a.eval).length = r.params.size) :
    (execOp a.eval o).run P w = .ok (.round l r.fn ((r.params.zip (c.args.toList.map a.eval).toArray).foldl (fun tmps (t, a) => tmps.setIfInBounds t a) r.tmps) r.assign r.body) w := by
  have e : c.args.map a.eval = (c.args.toList.map a.eval).toArray := by rw [← Array.toList_map, Array.toArray_toList]
  have hy := run_yield (P := P) (args := (c.args.toList.map a.eval).toArray) hl (by simpa using hs)
  simp only [execOp, ho, resolve, hc, hx, Deferred.ofValue, invoke, Sem.run_bind, Sem.run_pure, Result.andThen_ok, e, List.append_toArray, List.nil_append]
  exact hy
theorem Rel.moved [Inhabited GlobS] {G : Org} {st : St} {β β' : Beta} {a : Act} {w w' : World} {s' : Sto} {c' : List DExit} (h : Rel G st β a w) (h1 : SRel G.w0 G.F0 s' β' w')
    (h2 : Ext st.s.nx G.w0 G.X st.s β w s' β' w') (h3 : st.s.nx ≤ s'.nx) (h4 : G.hr s' β' w' c') : Rel G ⟨⟨st.base.n, c'⟩, st.tm, s'⟩ β' a w' :=
  ⟨h1, h.ext.trans (h2.mono h.nxb), h.bs, Nat.le_trans h.nxb h3, fun t => RV.extX h.srel G.hX (Nat.le_refl _) h2 (h.tm t), h.size, h.df.ext (fun _ h => h) h2, h4, h.rd.ext (fun _ h => h) h2⟩
theorem Rel.yielded [Inhabited GlobS] {G : Org} {st : St} {β β' : Beta} {a : Act} {w w' : World} {s' : Sto} {c' : List DExit} (h : Rel G st β a w) (h1 : SRel G.w0 G.F0 s' β' w')
    (h2 : Ext st.s.nx G.w0 G.X st.s β w s' β' w') (h3 : st.s.nx ≤ s'.nx) (h4 : G.hr s' β' w' c') (dst : Option Tmp) (hd : (dst.all fun t => decide (t < G.N)) = true) (b : Bool) :
    Rel G ((St.mk ⟨st.base.n, c'⟩ st.tm s').put dst (.v (.bool b))) β' (a.put dst (.bool b)) w' :=
  (h.moved h1 h2 h3 h4).put dst hd _ _ (.data (.v _ rfl))
theorem dstep_sound [Inhabited GlobS] {P : Program} {Y : YT} {ops : Array Oper} {o : Oper} {st : St} {K : St → Prop} {G : Org} (hY : YOk P G Y) (hnd : noDefer o = true) (hd : (o.dst.all fun t => decide (t < G.N)) = true) (h : dstep P Y ops false o st K) {β : Beta} {a : Act} {w : World} (hr : Rel G st β a w)
    {next : Act → World → Prop} {Q : Exit → Act → World → Prop} (hn : ∀ st' β' a' w', K st' → Rel G st' β' a' w' → next a' w') :
    if Region.wanted o (yielded ops a.tmps) then o.wpIn (Wd G.rd) 0 P a w next Q else next (a.put o.dst undef) w := by
  obtain ⟨g, h, hg0, hg⟩ := dgd_sound h
  have hg := hg _ _ _ a hr.tm
  rw [hg]
  -- an operation that only reads
  have quiet : (∃ d, K (st.put o.dst (gw o g d)) ∧ (g = true → QSem P st.s o.op (ev st.tm) d)) → if g = true then o.wpIn (Wd G.rd) 0 P a w next Q else next (a.put o.dst undef) w := fun ⟨d, hK, hq⟩ => by
    cases g with
    | true =>
      rw [if_pos rfl]
      obtain ⟨v, hv, hrun⟩ := hq rfl _ _ _ _ _ hr.srel.obsF hr.ev
      refine opIn_value hnd (hrun o w rfl (fun _ _ _ => rfl)) ?_
      refine hn _ _ _ _ hK (hr.put _ hd _ _ ?_)
      unfold gw
      split
      · exact hv
      · exact rv_gwhen (fun _ => hv) (fun e => by cases e)
    | false =>
      rw [if_neg (by simp)]
      refine hn _ _ _ _ hK (hr.put _ hd _ _ ?_)
      unfold gw
      split
      · rename_i e; exact absurd (hg0 e) (by simp)
      · exact rv_gwhen (fun e => by cases e) (fun _ => rfl)
  have eff : deff P false o g st K → if g = true then o.wpIn (Wd G.rd) 0 P a w next Q else next (a.put o.dst undef) w := fun ⟨_, h1, h2⟩ => by
    cases g with
    | true =>
      rw [if_pos rfl]
      obtain ⟨nx, v, w', d, s', β', hnx, hrun, hK, k1, k2, k3, k4, _, _⟩ := de_sound _ (h1 rfl) _ _ _ _ _ hr.srel hr.ev
      have := hn _ _ _ _ hK (hr.step k1 k2 k3 _ hd _ _ k4)
      rcases hnx with rfl | ⟨rfl, rfl⟩
      · exact opIn_value hnd (hrun o rfl) this
      · exact opIn_skip hnd (hrun o rfl) this
    | false =>
      rw [if_neg (by simp)]
      exact hn _ _ _ _ (h2 rfl) (hr.put _ hd _ _ (.dead _))
  split at h
  · exact eff h
  · exact eff h
  · exact eff h
  · exact eff h
  · exact eff h
  · exact eff h
  · exact eff h
  · rename_i c hop
    split at h
    · rename_i x hcal
      obtain ⟨df, h, hdf⟩ := evg_sound _ h
      split at h
      · rename_i fid first cap
        obtain ⟨hent, h⟩ := h
        obtain ⟨das, hcall, hdas⟩ := evgs_sound _ h
        cases hgd : o.guard with
        | none =>
          simp only [hgd] at hcall
          have hgt := hg0 hgd
          subst hgt
          rw [if_pos rfl]
          obtain ⟨xs, ys, he, hl1, hl2, hp1, hp2⟩ := rv_clo (hdf rfl _ _ _ _ (hr.ev x))
          have hargs := hdas rfl _ _ _ _ (pw_ev hr.ev c.args.toList)
          have hpw : Pw w (Fr G.w0 G.F0 st.s β) β (first ++ das ++ cap) (xs ++ c.args.toList.map a.eval ++ ys) := pw_append (pw_append ⟨hl1, hp1⟩ hargs) ⟨hl2, hp2⟩
          refine opIn_enter hnd (run_call (hent rfl) hop hcal he w) ((hcall _ _ _ _ _ hr.srel hpw).mono fun e w' ⟨v, r, s', β', he', hK, k1, k2, k3, k4⟩ => ⟨v, he', ?_⟩)
          exact hn _ _ _ _ hK (hr.step k1 k2 k3 _ hd _ _ k4)
        | some p =>
          simp only [hgd] at hcall
          cases g with
          | true =>
            rw [if_pos rfl]
            obtain ⟨xs, ys, he, hl1, hl2, hp1, hp2⟩ := rv_clo (hdf rfl _ _ _ _ (hr.ev x))
            have hargs := hdas rfl _ _ _ _ (pw_ev hr.ev c.args.toList)
            have hpw : Pw w (Fr G.w0 G.F0 st.s β) β (first ++ das ++ cap) (xs ++ c.args.toList.map a.eval ++ ys) := pw_append (pw_append ⟨hl1, hp1⟩ hargs) ⟨hl2, hp2⟩
            rcases hcall with ⟨r, hrr, hK⟩ | ⟨hrr, _⟩
            · refine opIn_enter hnd (run_call (hent rfl) hop hcal he w) ((hrr rfl _ _ _ _ _ hr.srel hpw).mono fun e w' ⟨v, r', s', β', he', ⟨hq1, hq2⟩, k1, k2, k3, k4⟩ => ⟨v, he', ?_⟩)
              subst hq1 hq2
              have hr' := hr.step k1 k2 k3 o.dst hd (gw o true r') v (by
                unfold gw
                split
                · exact k4
                · exact rv_gwhen (fun _ => k4) (fun e => by cases e))
              have e : (st.setS st.s).put o.dst (gw o true r') = st.put o.dst (gw o true r') := rfl
              rw [e] at hr'
              exact hn _ _ _ _ hK hr'
            · refine opIn_enter hnd (run_call (hent rfl) hop hcal he w) ((hrr rfl _ _ _ _ _ hr.srel hpw).mono fun e w' ⟨v, r, s', β', he', hK, k1, k2, k3, k4⟩ => ⟨v, he', ?_⟩)
              exact hn _ _ _ _ hK (hr.step k1 k2 k3 _ hd _ _ k4)
          | false =>
            rw [if_neg (by simp)]
            rcases hcall with ⟨r, _, hK⟩ | ⟨_, hK⟩
            · refine hn _ _ _ _ hK (hr.put _ hd _ _ ?_)
              unfold gw
              split
              · rename_i e; exact absurd (hg0 e) (by simp)
              · exact rv_gwhen (fun e => by cases e) (fun _ => rfl)
            · exact hn _ _ _ _ (hK rfl) (hr.put _ hd _ _ (.dead _))
      · rename_i l
        obtain ⟨_, h⟩ := h
        obtain ⟨das, ⟨hy, hno⟩, hdas⟩ := evgs_sound _ h
        cases g with
        | true =>
          rw [if_pos rfl]
          obtain ⟨xs, ys, he, hl1, hl2, _, _⟩ := rv_clo (hdf rfl _ _ _ _ (hr.ev x))
          have hxs : xs = [] := List.length_eq_zero_iff.1 (by simpa using hl1.symm)
          have hys : ys = [] := List.length_eq_zero_iff.1 (by simpa using hl2.symm)
          subst hxs hys
          have hargs := hdas rfl _ _ _ _ (pw_ev hr.ev c.args.toList)
          obtain ⟨r, hl, hsz, hrd⟩ := hY _ _ _ _ _ (hy rfl) β w _ hr.srel hr.ext hr.nxb hr.hs hargs
          refine opIn_round hnd (run_yieldCall hop hcal he hl (by simpa using hsz)) (hrd.mono fun e w' ⟨b, cd, s', β', he', hK, k1, k2, k3, k4⟩ => ⟨_, he', ?_⟩)
          exact hn _ _ _ _ hK (hr.yielded k1 k2 k3 k4 _ hd b)
        | false =>
          rw [if_neg (by simp)]
          exact hn _ _ _ _ (hno rfl) (hr.put _ hd _ _ (.dead _))
      · exact h.elim
    · exact eff h
    · exact eff h
    · exact eff h
    · exact eff h
    · exact quiet (dq_sound _ h)
  · exact quiet (dq_sound _ h)
theorem dstep_quiet [Inhabited GlobS] {P : Program} {Y : YT} {ops : Array Oper} {o : Oper} {st : St} {K : St → Prop} {G : Org} (hd : (o.dst.all fun t => decide (t < G.N)) = true) (h : dstep P Y ops true o st K) {β : Beta} {a : Act} {w : World} (hr : Rel G st β a w) :
    ∃ st' v, K st' ∧ (Region.wanted o (yielded ops a.tmps) = true → ∀ w', BelowD w.heap.size w w' → o.quietAt P a (fun w' => BelowD w.heap.size w w') w' v) ∧ (Region.wanted o (yielded ops a.tmps) = false → v = undef) ∧ Rel G st' β (a.put o.dst v) w := by
  obtain ⟨g, h, hg0, hg⟩ := dgd_sound h
  have hg := hg _ _ _ a hr.tm
  rw [hg]
  have skip : ∀ d, g = false → K (st.put o.dst (gw o g d)) → ∃ st' v, K st' ∧ (g = true → ∀ w', BelowD w.heap.size w w' → o.quietAt P a (fun w' => BelowD w.heap.size w w') w' v) ∧ (g = false → v = undef) ∧ Rel G st' β (a.put o.dst v) w := fun d e hK => by
    refine ⟨_, undef, hK, fun e' => (by rw [e] at e'; cases e'), fun _ => rfl, hr.put _ hd _ _ ?_⟩
    unfold gw
    split
    · rename_i e'; exact absurd (hg0 e') (by rw [e]; simp)
    · exact rv_gwhen (fun e' => by rw [e] at e'; cases e') (fun _ => rfl)
  have quiet : (∃ d, K (st.put o.dst (gw o g d)) ∧ (g = true → QSem P st.s o.op (ev st.tm) d)) →
      ∃ st' v, K st' ∧ (g = true → ∀ w', BelowD w.heap.size w w' → o.quietAt P a (fun w' => BelowD w.heap.size w w') w' v) ∧ (g = false → v = undef) ∧ Rel G st' β (a.put o.dst v) w := fun ⟨d, hK, hq⟩ => by
    by_cases e : g = true
    · obtain ⟨v, hv, hrun⟩ := hq e _ _ _ _ _ hr.srel.obsF hr.ev
      refine ⟨_, v, hK, fun _ w' hb => ?_, fun e' => (by rw [e] at e'; cases e'), hr.put _ hd _ _ ?_⟩
      · unfold Oper.quietAt
        rw [hrun o w' rfl (.of_below hb)]
        exact ⟨rfl, rfl⟩
      · unfold gw
        split
        · exact hv
        · exact rv_gwhen (fun _ => hv) (fun e' => by rw [e] at e'; cases e')
    · exact skip d (by simpa using e) hK
  have eff : deff P true o g st K → ∃ st' v, K st' ∧ (g = true → ∀ w', BelowD w.heap.size w w' → o.quietAt P a (fun w' => BelowD w.heap.size w w') w' v) ∧ (g = false → v = undef) ∧ Rel G st' β (a.put o.dst v) w := fun ⟨h, _⟩ => by cases h
  split at h
  · exact eff h
  · exact eff h
  · exact eff h
  · exact eff h
  · exact eff h
  · exact eff h
  · exact eff h
  · rename_i c hop
    split at h
    · rename_i x hcal
      obtain ⟨df, h, hdf⟩ := evg_sound _ h
      split at h
      · rename_i fid first cap
        obtain ⟨hent, h⟩ := h
        obtain ⟨das, h, hdas⟩ := evgs_sound _ h
        have h : PCall P fid (first ++ das ++ cap) st.s g fun r => K (st.put o.dst (gw o g r)) := h
        · obtain ⟨r, hrr, hK⟩ := h
          by_cases e : g = true
          · obtain ⟨hsc, hp⟩ := hrr e
            obtain ⟨xs, ys, he, hl1, hl2, hp1, hp2⟩ := rv_clo (hdf e _ _ _ _ (hr.ev x))
            have hargs := hdas e _ _ _ _ (pw_ev hr.ev c.args.toList)
            have hpw : Pw w (Fr G.w0 G.F0 st.s β) β (first ++ das ++ cap) (xs ++ c.args.toList.map a.eval ++ ys) := pw_append (pw_append ⟨hl1, hp1⟩ hargs) ⟨hl2, hp2⟩
            refine ⟨_, svalOf r, hK, fun _ w' hb => ?_, fun e' => (by rw [e] at e'; cases e'), hr.put _ hd _ _ ?_⟩
            · unfold Oper.quietAt
              rw [run_call (hent e) hop hcal he]
              refine ⟨rfl, ?_⟩
              obtain ⟨k1, k2⟩ := hr.srel.below' hb
              have hpw' : Pw w' (Fr G.w0 G.F0 st.s β) β (first ++ das ++ cap) (xs ++ c.args.toList.map a.eval ++ ys) := ⟨hpw.1, fun i d x h1 h2 => RV.ext hr.srel (Nat.le_refl _) (k2 _) (hpw.2 i d x h1 h2)⟩
              exact (hp _ _ _ _ _ k1 hpw').mono fun e w'' ⟨h1, h2⟩ => ⟨h1, hb.trans (h2.mono hb.size)⟩
            · have hsv : RV w (Fr G.w0 G.F0 st.s β) β r (svalOf r) := rv_svalOf hsc
              unfold gw
              split
              · exact hsv
              · exact rv_gwhen (fun _ => hsv) (fun e' => by rw [e] at e'; cases e')
          · exact skip r (by simpa using e) hK
      · exact absurd h.1 (by simp)
      · exact h.elim
    · exact eff h
    · exact eff h
    · exact eff h
    · exact eff h
    · exact quiet (dq_sound _ h)
  · exact quiet (dq_sound _ h)
theorem dops_sound [Inhabited GlobS] {P : Program} {Y : YT} {ops : Array Oper} {G : Org} (hY : YOk P G Y) {Q : Exit → Act → World → Prop} (l : List Oper) (hnd : ∀ o ∈ l, noDefer o = true) (hd : ∀ o ∈ l, (o.dst.all fun t => decide (t < G.N)) = true) : ∀ {st : St} {K : St → Prop}, dops P Y ops false l st K →
    ∀ {β : Beta} {a : Act} {w : World}, Rel G st β a w → (∀ st' β' a' w', K st' → Rel G st' β' a' w' → Q .normal a' w') → listIn G.rd P ops Q l a w := by
  induction l with
  | nil => intro st K h β a w hr hQ; exact hQ _ _ _ _ h hr
  | cons o l ih =>
    intro st K h β a w hr hQ
    have := dstep_sound hY (hnd o (List.mem_cons_self ..)) (hd o (List.mem_cons_self ..)) h hr (next := listIn G.rd P ops Q l) (Q := Q) (fun st' β' a' w' hK hr' => ih (fun o ho => hnd o (List.mem_cons_of_mem _ ho)) (fun o ho => hd o (List.mem_cons_of_mem _ ho)) hK hr' hQ)
    unfold listIn
    exact this
theorem dops_quiet [Inhabited GlobS] {P : Program} {Y : YT} {ops : Array Oper} {G : Org} {w : World} {β : Beta} {Q : Act → Prop} (l : List Oper) (hd : ∀ o ∈ l, (o.dst.all fun t => decide (t < G.N)) = true) : ∀ {st : St} {K : St → Prop}, dops P Y ops true l st K →
    ∀ {a : Act}, Rel G st β a w → (∀ st' a', K st' → Rel G st' β a' w → Q a') → wpQuiet P ops (fun w' => BelowD w.heap.size w w') Q l a := by
  induction l with
  | nil => intro st K h a hr hQ; exact hQ _ _ h hr
  | cons o l ih =>
    intro st K h a hr hQ
    obtain ⟨st', v, hK, h1, h2, hr'⟩ := dstep_quiet (hd o (List.mem_cons_self ..)) h hr
    have := ih (fun o ho => hd o (List.mem_cons_of_mem _ ho)) hK hr' hQ
    unfold wpQuiet
    split
    · rename_i hw; exact ⟨v, fun w' hb => h1 hw w' hb, this⟩
    · rename_i hw; rw [h2 (by simpa using hw)] at this; exact this
end Go.Dl


