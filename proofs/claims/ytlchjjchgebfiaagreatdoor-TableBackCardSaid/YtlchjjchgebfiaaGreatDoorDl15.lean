/-
  The data-level logic, part 15: regions that draw their order and write: what only reads is taken first, what writes comes when nothing else can.
-/
import Derived.Test.YtlchjjchgebfiaaGreatDoorDl14
import Derived.OrdersHeld
import Derived.Deep.RegionHeld3
namespace Go.Dl
open Go Go.RowKit

def Sto.hide (s : Sto) (T : List Nat) : Sto := ⟨fun i => if T.contains i = true then none else s.ob i, s.nx⟩
def upo (tv : Nat → DV) (dst : Option Tmp) (d : DV) : Nat → DV := match dst with | some t => upd tv t d | none => tv

/-- What of a value is there whatever the world. -/
def vis1 : DV → DV
  | .v x => .v x
  | _ => .dead
def vis2 : DV → DV
  | .v x => .v x
  | .agg cs => .agg (cs.map vis1)
  | _ => .dead
def visD : DV → DV
  | .v x => .v x
  | .when b (.v x) => .when b (.v x)
  | .agg cs => .agg (cs.map vis1)
  | .tup cs => .tup (cs.map vis2)
  | _ => .dead
theorem rv_vis1 {w w' : World} {F F' : Nat → Prop} {β β' : Beta} {d : DV} {x : Value} (h : RV w F β d x) : RV w' F' β' (vis1 d) x := by
  unfold vis1
  split
  · cases h with
    | data h => cases h with | v _ h => exact .data (.v _ h)
  · exact .dead _
theorem rv_visAgg {w w' : World} {F F' : Nat → Prop} {β β' : Beta} {cs : List DV} {x : Value} (h : RV w F β (.agg cs) x) : RV w' F' β' (.agg (cs.map vis1)) x := by
  obtain ⟨xs, rfl, hl, hp⟩ := rv_agg h
  refine .agg _ _ (by simpa using hl) fun i d y h1 h2 => ?_
  simp only [List.getElem?_map, Option.map_eq_some_iff] at h1
  obtain ⟨c, hc, rfl⟩ := h1
  exact rv_vis1 (hp i c y hc h2)
theorem rv_vis2 {w w' : World} {F F' : Nat → Prop} {β β' : Beta} {d : DV} {x : Value} (h : RV w F β d x) : RV w' F' β' (vis2 d) x := by
  unfold vis2
  split
  · cases h with
    | data h => cases h with | v _ h => exact .data (.v _ h)
  · exact rv_visAgg h
  · exact .dead _
theorem rv_visD {w w' : World} {F F' : Nat → Prop} {β β' : Beta} {d : DV} {x : Value} (h : RV w F β d x) : RV w' F' β' (visD d) x := by
  unfold visD
  split
  · cases h with
    | data h => cases h with | v _ h => exact .data (.v _ h)
  · cases h with
    | data h => cases h
    | whn _ _ _ h1 h2 =>
      refine .whn _ _ _ (fun e => ?_) h2
      cases h1 e with
      | data h => cases h with | v _ h => exact .data (.v _ h)
  · exact rv_visAgg h
  · obtain ⟨xs, rfl, hl, hp⟩ := rv_tup h
    refine .tup _ _ (by simpa using hl) fun i d y h1 h2 => ?_
    simp only [List.getElem?_map, Option.map_eq_some_iff] at h1
    obtain ⟨c, hc, rfl⟩ := h1
    exact rv_vis2 (hp i c y hc h2)
  · exact .dead _

/-- Such a call returns data, and leaves what was there as it was. -/
def DSem [Inhabited GlobS] (P : Program) (f : FuncId) (args : List DV) (s : Sto) (r : DV) : Prop :=
  ∀ (w0 : World) (F0 : Nat → Prop) (β : Beta) (w : World) (vals : List Value), SRel w0 F0 s β w → Pw w (Fr w0 F0 s β) β args vals →
    Calls P f vals.toArray w fun e w' => ∃ v, e = .returned v ∧ BelowD w.heap.size w w' ∧ RV w' (Fr w0 F0 s β) β r v
/-- A call in a region that draws its order, met when nothing else can come. -/
def MCall [Inhabited GlobS] (P : Program) (f : FuncId) (args : List DV) (s : Sto) (g : Bool) (K : DV → Prop) : Prop := ∃ r, (g = true → DSem P f args s r) ∧ K r
/-- An operation with an effect in a region that draws its order. -/
noncomputable def meff [Inhabited GlobS] (P : Program) (T : List Nat) (o : Oper) (g : Bool) (st : St) (K : St → Prop) : Prop :=
  (g = true → (etgt (ev st.tm) o.op).all (fun i => T.contains i && (st.s.ob i).isSome) = true ∧ de P st.s (ev st.tm) o.op fun d s' => K ((st.setS s').put o.dst d)) ∧ (g = false → K (st.put o.dst .dead))

theorem DSem.data [Inhabited GlobS] {P : Program} {f : FuncId} {args : List DV} {s : Sto} {r : DV} (h : DPure P f args r) (hargs : args.all noIds = true) (hr : noIds r = true) : DSem P f args s r := by
  intro w0 F0 β w vals hs hx
  refine (h w (Fr w0 F0 s β) vals hs.gok hs.frUp ⟨hx.1, fun i d y h1 h2 => rv_noIds (hx.2 i d y h1 h2) (List.all_eq_true.1 hargs d (List.mem_of_getElem? h1)) (fun b _ hF => ⟨hF, rfl⟩)⟩).mono fun e w' ⟨v, r', s', β', he, hq, hs', hv⟩ => ?_
  subst hq
  exact ⟨v, he, hs'.below, rv_noIds hv hr fun b hb hF => ⟨hF.1, rfl⟩⟩
theorem DSem.plain [Inhabited GlobS] {P : Program} {f : FuncId} {args : List DV} {s : Sto} {r : DV} (hr : scal r = true) (h : PSem P f args s r) : DSem P f args s r := fun w0 F0 β w vals hs hx =>
  (h w0 F0 β w vals hs hx).mono fun _ _ ⟨he, hb⟩ => ⟨_, he, hb, rv_svalOf hr⟩
theorem MCall.data [Inhabited GlobS] {P : Program} {f : FuncId} {args : List DV} {s : Sto} {g : Bool} {K : DV → Prop} {r : DV} (h : g = true → DPure P f args r) (hargs : args.all noIds = true) (hr : noIds r = true) (hK : K r) : MCall P f args s g K :=
  ⟨r, fun hg => DSem.data (h hg) hargs hr, hK⟩
theorem MCall.plain [Inhabited GlobS] {P : Program} {f : FuncId} {args : List DV} {s : Sto} {g : Bool} {K : DV → Prop} (h : PCall P f args s g K) : MCall P f args s g K := by
  obtain ⟨r, h1, h2⟩ := h
  exact ⟨r, fun hg => DSem.plain (h1 hg).1 (h1 hg).2, h2⟩
theorem MCall.mark [Inhabited GlobS] {P : Program} {f : FuncId} {args : List DV} {s : Sto} {g : Bool} {K : DV → Prop} (h : MCall P f args s g K) : MCall P f args s g K := h

/-- The moves: (true, i): number i only reads, what it reads stands as it stood when the region began; (false, i): number i writes, into one of 'T' or into new memory. -/
noncomputable def dmoves [Inhabited GlobS] (P : Program) (ops : Array Oper) (sv : Sto) (T : List Nat) (l : List (Bool × Nat)) : St → (Nat → DV) → (St → Prop) → Prop :=
  List.rec (motive := fun _ => St → (Nat → DV) → (St → Prop) → Prop) (fun st _ K => K st)
    (fun m _ next st tv K => match ops[m.2]? with
      | none => False
      | some o => (match m.1 with
        | true => dgd ops o tv fun g => dq P sv (ev tv) g o.op fun d => next (st.put o.dst (gw o g d)) (upo tv o.dst (gw o g d)) K
        | false => dgd ops o st.tm fun g => (match o.op with
          | .alloc _ | .box .. | .buildSlice .. | .makeSlice .. | .store .. => meff P T o g st fun st' => next st' (upo tv o.dst .dead) K
          | .call c => (match c.callee with
            | .value f => evg g (ev st.tm f) fun df => (match df with
              | .clo (.func fid) first cap => (g = true → entersB P fid = true) ∧ evgs g (c.args.toList.map (ev st.tm)) fun das => MCall P fid (first ++ das ++ cap) st.s g fun r => next (st.put o.dst (gw o g r)) (upo tv o.dst (visD (gw o g r))) K
              | _ => False)
            | .builtin .append | .builtin .clear | .builtin .copy | .builtin .delete => meff P T o g st fun st' => next st' (upo tv o.dst .dead) K
            | _ => dq P st.s (ev st.tm) g o.op fun d => next (st.put o.dst (gw o g d)) (upo tv o.dst (visD (gw o g d))) K)
          | op => dq P st.s (ev st.tm) g op fun d => next (st.put o.dst (gw o g d)) (upo tv o.dst (visD (gw o g d))) K))) l

def movesB (ops : Array Oper) : List (Bool × Nat) → Array Bool → Bool
  | [], listed => (Region.ready .any ops listed).isEmpty
  | (true, i) :: l, listed => (Region.ready .any ops listed).contains i && Region.free .any ops listed i && movesB ops l (listed.setIfInBounds i true)
  | (false, i) :: l, listed => decide (Region.ready .any ops listed = [i]) && movesB ops l (listed.setIfInBounds i true)
def regB (P : Program) (N : Nat) (ops : Array Oper) (l : List (Bool × Nat)) : Bool :=
  P.follows .mixedOrders && Region.noSelect ops && decide (l.length = ops.size) && ops.toList.all (fun o => noDefer o && o.dst.all fun t => decide (t < N)) && movesB ops l (Array.replicate ops.size false)

/-- What stands as it stood when the region began. -/
structure RM [Inhabited GlobS] (G : Org) (st0 : St) (β0 : Beta) (ws : World) (T : List Nat) (st : St) (tv : Nat → DV) (β : Beta) (a : Act) (w : World) : Prop where
  rel : Rel G st β a w
  vis : ∀ t, RV ws (Fr G.w0 G.F0 st0.s β0) β0 (tv t) (a.tmps.getD t undef)
  ext : Ext st0.s.nx G.w0 nX st0.s β0 ws st.s β w
  mono : st0.s.nx ≤ st.s.nx
  keep : Kp (Fr G.w0 G.F0 st0.s β0) (st0.s.hide T) β0 ws w
  tgt : ∀ i b c, (st.s.ob i).isSome = true → β i = some (some (b, c)) → b < ws.heap.size → (Fr G.w0 G.F0 st0.s β0 b ∨ ∃ j o c', (st0.s.hide T).ob j = some o ∧ β0 j = some (some (b, c'))) → T.contains i = false

theorem hide_ob {s : Sto} {T : List Nat} {j : Nat} {o : DObj} (h : (s.hide T).ob j = some o) : s.ob j = some o ∧ T.contains j = false := by
  unfold Sto.hide at h
  simp only at h
  split at h
  · cases h
  · rename_i hc; exact ⟨h, by simpa using hc⟩

theorem RM.start [Inhabited GlobS] {G : Org} {st : St} {β : Beta} {a : Act} {w : World} (h : Rel G st β a w) (T : List Nat) : RM G st β w T st st.tm β a w :=
  ⟨h, h.tm, .refl, Nat.le_refl _, fun _ _ _ => rfl, fun i b c hi hb hlt hv => by
    obtain ⟨o, ho⟩ := Option.isSome_iff_exists.1 hi
    rcases h.srel.obs i o ho with g | ⟨b', c', cur, g1, g2, _⟩
    · rw [g.1] at hb; cases hb
    rw [g1] at hb
    simp only [Option.some.injEq, Prod.mk.injEq] at hb
    obtain ⟨rfl, rfl⟩ := hb
    rcases hv with ⟨_, (hF | hF)⟩ | ⟨j, oj, cj, hj, hbj⟩
    · omega
    · exact absurd g1 (hF.2 i _ hi)
    · obtain ⟨h1, h2⟩ := hide_ob hj
      have e := h.srel.inj i j _ _ _ hi (by simp [h1]) g1 hbj
      rw [e]; exact h2⟩

theorem plain_normal {R : Exit → Act → World → Prop} {a : Act} {w : World} (h : R .normal a w) : Plain R .normal a w := h

theorem dmoves_sound [Inhabited GlobS] {P : Program} {ops : Array Oper} {T : List Nat} {G : Org} {st0 : St} {β0 : Beta} {ws : World} {R : Exit → Act → World → Prop} (hs0 : SRel G.w0 G.F0 st0.s β0 ws) (hsel : Region.noSelect ops = true)
    (hd : ∀ o ∈ ops.toList, (o.dst.all fun t => decide (t < G.N)) = true) (l : List (Bool × Nat)) : ∀ {listed : Array Bool} {st : St} {tv : Nat → DV} {K : St → Prop} {β : Beta} {a : Act} {w : World}, movesB ops l listed = true →
    dmoves P ops (st0.s.hide T) T l st tv K → RM G st0 β0 ws T st tv β a w → (∀ st' β' a' w', K st' → Rel G st' β' a' w' → R .normal a' w') →
    wpAnyH P .any ops (Plain R) (Kp (Fr G.w0 G.F0 st0.s β0) (st0.s.hide T) β0 ws) l.length listed a w := by
  induction l with
  | nil =>
    intro listed st tv K β a w hm h hr hR
    exact wpAnyH_done (by simpa [movesB] using hm) (plain_normal (hR _ _ _ _ h hr.rel)) _
  | cons m l ih =>
    intro listed st tv K β a w hm h hr hR
    obtain ⟨q, i⟩ := m
    replace h : (match ops[i]? with
      | none => False
      | some o => (match (generalizing := false) q with
        | true => dgd ops o tv fun g => dq P (st0.s.hide T) (ev tv) g o.op fun d => dmoves P ops (st0.s.hide T) T l (st.put o.dst (gw o g d)) (upo tv o.dst (gw o g d)) K
        | false => dgd ops o st.tm fun g => (match o.op with
          | .alloc _ | .box .. | .buildSlice .. | .makeSlice .. | .store .. => meff P T o g st fun st' => dmoves P ops (st0.s.hide T) T l st' (upo tv o.dst .dead) K
          | .call c => (match c.callee with
            | .value f => evg g (ev st.tm f) fun df => (match df with
              | .clo (.func fid) first cap => (g = true → entersB P fid = true) ∧ evgs g (c.args.toList.map (ev st.tm)) fun das => MCall P fid (first ++ das ++ cap) st.s g fun r => dmoves P ops (st0.s.hide T) T l (st.put o.dst (gw o g r)) (upo tv o.dst (visD (gw o g r))) K
              | _ => False)
            | .builtin .append | .builtin .clear | .builtin .copy | .builtin .delete => meff P T o g st fun st' => dmoves P ops (st0.s.hide T) T l st' (upo tv o.dst .dead) K
            | _ => dq P st.s (ev st.tm) g o.op fun d => dmoves P ops (st0.s.hide T) T l (st.put o.dst (gw o g d)) (upo tv o.dst (visD (gw o g d))) K)
          | op => dq P st.s (ev st.tm) g op fun d => dmoves P ops (st0.s.hide T) T l (st.put o.dst (gw o g d)) (upo tv o.dst (visD (gw o g d))) K))) := h
    split at h
    · exact h.elim
    rename_i o hoi
    have hdo := hd o (by simpa using Array.mem_of_getElem? hoi)
    have hupo : ∀ (v : Value) (d : DV), RV ws (Fr G.w0 G.F0 st0.s β0) β0 d v → ∀ t, RV ws (Fr G.w0 G.F0 st0.s β0) β0 (upo tv o.dst d t) ((a.put o.dst v).tmps.getD t undef) := fun v d hv t => by
      cases hdst : o.dst with
      | none => exact hr.vis t
      | some t0 =>
        have hlt : t0 < a.tmps.size := by rw [hr.rel.size]; rw [hdst] at hdo; simpa using hdo
        by_cases e : t = t0
        · subst e
          simp only [upo, upd_same, Act.put]
          rw [Array.getD_eq_getD_getElem?, Array.getElem?_setIfInBounds_self_of_lt hlt]
          exact hv
        · simp only [upo, upd_ne _ _ _ e, Act.put]
          rw [Array.getD_eq_getD_getElem?, Array.getElem?_setIfInBounds_ne (fun h => e h.symm), ← Array.getD_eq_getD_getElem?]
          exact hr.vis t
    cases q with
    | true =>
      simp only [movesB, Bool.and_eq_true] at hm
      obtain ⟨⟨m1, m2⟩, m3⟩ := hm
      obtain ⟨g, h, hg0, hg⟩ := dgd_sound h
      have hg := hg _ _ _ a hr.vis
      obtain ⟨d, hK, hq⟩ := dq_sound _ h
      have hobs : ObsF G.w0 (Fr G.w0 G.F0 st0.s β0) (st0.s.hide T) β0 ws := fun j oj hj => hs0.obs j oj (hide_ob hj).1
      have hev : ∀ x, RV ws (Fr G.w0 G.F0 st0.s β0) β0 (ev tv x) (a.eval x) := fun x => by
        cases x with
        | tmp t => exact hr.vis t
        | const v =>
          simp only [Dl.ev]
          split
          · rename_i hv; exact .data (.v _ hv)
          · exact .dead _
        | global g => exact .data (.v _ rfl)
        | func f => exact .clo (.func f) [] [] [] [] rfl rfl (fun i d x h => by simp at h) (fun i d x h => by simp at h)
      have key : ∃ v, YieldsIf P ops (Kp (Fr G.w0 G.F0 st0.s β0) (st0.s.hide T) β0 ws) o v a ∧ RV ws (Fr G.w0 G.F0 st0.s β0) β0 (gw o g d) v := by
        by_cases e : g = true
        · obtain ⟨v, hv, hrun⟩ := hq e _ _ _ _ _ hobs hev
          refine ⟨v, .inl ⟨by rw [hg]; exact e, fun w' hw' => hrun o w' rfl hw'⟩, ?_⟩
          unfold gw
          split
          · exact hv
          · exact rv_gwhen (fun _ => hv) (fun e' => by rw [e] at e'; cases e')
        · have e' : g = false := by simpa using e
          refine ⟨undef, .inr ⟨by rw [hg]; exact e', rfl⟩, ?_⟩
          unfold gw
          split
          · rename_i e2; exact absurd (hg0 e2) e
          · exact rv_gwhen (fun e2 => absurd e2 e) (fun _ => rfl)
      obtain ⟨v, hy, hv⟩ := key
      refine wpAnyH_take hoi hsel m2 m1 (fun c a w h => h) hy hr.keep (ih m3 hK ⟨hr.rel.put _ hdo _ _ (RV.ext hs0 (Nat.le_refl _) hr.ext hv), hupo v _ hv, ?_, ?_, hr.keep, ?_⟩ hR)
      · have e : (st.put o.dst (gw o g d)).s = st.s := by unfold St.put; split <;> rfl
        rw [e]; exact hr.ext
      · have e : (st.put o.dst (gw o g d)).s = st.s := by unfold St.put; split <;> rfl
        rw [e]; exact hr.mono
      · have e : (st.put o.dst (gw o g d)).s = st.s := by unfold St.put; split <;> rfl
        rw [e]; exact hr.tgt
    | false =>
      simp only [movesB, Bool.and_eq_true, decide_eq_true_eq] at hm
      obtain ⟨m1, m2⟩ := hm
      refine wpAnyH_all m1 (by simp) fun j hj => ?_
      have e : i = j := by have : j = i := by simpa using hj
                           exact this.symm
      subst e
      obtain ⟨g, h, hg0, hg⟩ := dgd_sound h
      have hg := hg _ _ _ a hr.rel.tm
      unfold wpOp
      simp only [hoi]
      rw [hg]
      have hwsz : ws.heap.size ≤ w.heap.size := hr.ext.size
      have hB : ∀ (w' : World) (v : Value) (d : DV), BelowD w.heap.size w w' → RV w' (Fr G.w0 G.F0 st.s β) β d v → dmoves P ops (st0.s.hide T) T l (st.put o.dst d) (upo tv o.dst (visD d)) K →
          Kp (Fr G.w0 G.F0 st0.s β0) (st0.s.hide T) β0 ws w' ∧ wpAnyH P .any ops (Plain R) (Kp (Fr G.w0 G.F0 st0.s β0) (st0.s.hide T) β0 ws) l.length (listed.setIfInBounds i true) (a.put o.dst v) w' := fun w' v d hb hv hK => by
        have hkeep : Kp (Fr G.w0 G.F0 st0.s β0) (st0.s.hide T) β0 ws w' := fun b hlt hv => (hb.block b (by omega)).trans (hr.keep b hlt hv)
        have hS : (st.put o.dst d).s = st.s := by unfold St.put; split <;> rfl
        exact ⟨hkeep, ih m2 hK ⟨(hr.rel.below hb).put _ hdo _ _ hv, hupo v _ (rv_visD hv), by rw [hS]; exact hr.ext.trans ((hr.rel.srel.below' hb).2 _), by rw [hS]; exact hr.mono, hkeep, by rw [hS]; exact hr.tgt⟩ hR⟩
      have hW : ∀ (d : DV), g = false → dmoves P ops (st0.s.hide T) T l (st.put o.dst (gw o g d)) (upo tv o.dst (visD (gw o g d))) K →
          Kp (Fr G.w0 G.F0 st0.s β0) (st0.s.hide T) β0 ws w ∧ wpAnyH P .any ops (Plain R) (Kp (Fr G.w0 G.F0 st0.s β0) (st0.s.hide T) β0 ws) l.length (listed.setIfInBounds i true) (a.put o.dst undef) w := fun d e hK => hB w undef _ (BelowD.refl _ _) (by
        unfold gw
        split
        · rename_i e'; exact absurd (hg0 e') (by rw [e]; simp)
        · exact rv_gwhen (fun e' => by rw [e] at e'; cases e') (fun _ => rfl)) hK
      have hgw : ∀ (w' : World) (d : DV) (v : Value), RV w' (Fr G.w0 G.F0 st.s β) β d v → g = true → RV w' (Fr G.w0 G.F0 st.s β) β (gw o g d) v := fun w' d v hv e => by
        unfold gw
        split
        · exact hv
        · exact rv_gwhen (fun _ => hv) (fun e' => by rw [e] at e'; cases e')
      have quiet : (dq P st.s (ev st.tm) g o.op fun d => dmoves P ops (st0.s.hide T) T l (st.put o.dst (gw o g d)) (upo tv o.dst (visD (gw o g d))) K) →
        (if g = true then
          Oper.wp P o a w (fun a' w' => Kp (Fr G.w0 G.F0 st0.s β0) (st0.s.hide T) β0 ws w' ∧ wpAnyH P .any ops (Plain R) (Kp (Fr G.w0 G.F0 st0.s β0) (st0.s.hide T) β0 ws) l.length (listed.setIfInBounds i true) a' w') (Plain R) ∨ Oper.asks P o a w ∧ LetsOut (Plain R)
        else Kp (Fr G.w0 G.F0 st0.s β0) (st0.s.hide T) β0 ws w ∧ wpAnyH P .any ops (Plain R) (Kp (Fr G.w0 G.F0 st0.s β0) (st0.s.hide T) β0 ws) l.length (listed.setIfInBounds i true) (a.put o.dst undef) w) := fun h => by
        obtain ⟨d, hK, hq⟩ := dq_sound _ h
        by_cases e : g = true
        · rw [if_pos e]
          obtain ⟨v, hv, hrun⟩ := hq e _ _ _ _ _ hr.rel.srel.obsF hr.rel.ev
          refine .inl ?_
          simp only [Oper.wp, hrun o w rfl (fun _ _ _ => rfl)]
          exact hB w v _ (BelowD.refl _ _) (hgw w d v hv e) hK
        · rw [if_neg e]
          exact hW d (by simpa using e) hK
      have eff : (meff P T o g st fun st' => dmoves P ops (st0.s.hide T) T l st' (upo tv o.dst .dead) K) →
        (if g = true then
          Oper.wp P o a w (fun a' w' => Kp (Fr G.w0 G.F0 st0.s β0) (st0.s.hide T) β0 ws w' ∧ wpAnyH P .any ops (Plain R) (Kp (Fr G.w0 G.F0 st0.s β0) (st0.s.hide T) β0 ws) l.length (listed.setIfInBounds i true) a' w') (Plain R) ∨ Oper.asks P o a w ∧ LetsOut (Plain R)
        else Kp (Fr G.w0 G.F0 st0.s β0) (st0.s.hide T) β0 ws w ∧ wpAnyH P .any ops (Plain R) (Kp (Fr G.w0 G.F0 st0.s β0) (st0.s.hide T) β0 ws) l.length (listed.setIfInBounds i true) (a.put o.dst undef) w) := fun h => by
        clear quiet hgw hW hB
        cases g with
        | true =>
          rw [if_pos rfl]
          obtain ⟨hT, h1⟩ := h.1 rfl
          obtain ⟨nx, v, w', d, s', β', hnx, hrun, hK, k1, k2, k3, k4, k5, k6⟩ := de_sound _ h1 _ _ _ _ _ hr.rel.srel hr.rel.ev
          have hno : ∀ b, b < ws.heap.size → (Fr G.w0 G.F0 st0.s β0 b ∨ ∃ j o c', (st0.s.hide T).ob j = some o ∧ β0 j = some (some (b, c'))) → ∀ τ c, etgt (ev st.tm) o.op = some τ → β τ ≠ some (some (b, c)) := fun b hb hv τ c hτ hβ => by
            rw [hτ] at hT
            simp only [Option.all_some, Bool.and_eq_true] at hT
            have := hr.tgt τ b c hT.2 hβ hb hv
            rw [this] at hT
            cases hT.1
          have hkeep : Kp (Fr G.w0 G.F0 st0.s β0) (st0.s.hide T) β0 ws w' := fun b hb hv => by
            rw [k5 b (by omega) (hno b hb hv)]
            exact hr.keep b hb hv
          have hS : ∀ d', ((st.setS s').put o.dst d').s = s' := fun d' => by unfold St.put St.setS; split <;> rfl
          have hrm : RM G st0 β0 ws T ((st.setS s').put o.dst d) (upo tv o.dst .dead) β' (a.put o.dst v) w' := by
            refine ⟨hr.rel.step k1 k2 k3 _ hdo _ _ k4, hupo v _ (.dead _), ?_, ?_, hkeep, ?_⟩
            · rw [hS]; exact hr.ext.trans (k2.mono hr.mono)
            · rw [hS]; exact Nat.le_trans hr.mono k3
            · rw [hS]
              intro i b c hi hb hlt hv
              rcases k6 i b c hi hb (by omega) with ⟨h2, h3⟩ | ⟨τ, c', h2, h3, h4⟩
              · exact hr.tgt i b c h2 h3 hlt hv
              · exact absurd h4 (hno b hlt hv τ c' h2)
          refine .inl ?_
          simp only [Oper.wp, hrun o rfl]
          rcases hnx with rfl | ⟨rfl, rfl⟩
          · exact ⟨hkeep, ih m2 hK hrm hR⟩
          · exact ⟨hkeep, ih m2 hK hrm hR⟩
        | false =>
          rw [if_neg (by simp)]
          have h1 := h.2 rfl
          have hS : (st.put o.dst .dead).s = st.s := by unfold St.put; split <;> rfl
          exact ⟨hr.keep, ih m2 h1 ⟨hr.rel.put _ hdo _ _ (.dead _), hupo _ _ (.dead _), by rw [hS]; exact hr.ext, by rw [hS]; exact hr.mono, hr.keep, by rw [hS]; exact hr.tgt⟩ hR⟩
      split at h
      · exact eff h
      · exact eff h
      · exact eff h
      · exact eff h
      · exact eff h
      · rename_i c hop
        split at h
        · rename_i x hcal
          obtain ⟨df, h, hdf⟩ := evg_sound _ h
          split at h
          · rename_i fid first cap
            obtain ⟨hent, h⟩ := h
            obtain ⟨das, h, hdas⟩ := evgs_sound _ h
            obtain ⟨r, hrr, hK⟩ := h
            by_cases e : g = true
            · rw [if_pos e]
              obtain ⟨xs, ys, he, hl1, hl2, hp1, hp2⟩ := rv_clo (hdf e _ _ _ _ (hr.rel.ev x))
              have hargs := hdas e _ _ _ _ (pw_ev hr.rel.ev c.args.toList)
              have hpw : Pw w (Fr G.w0 G.F0 st.s β) β (first ++ das ++ cap) (xs ++ c.args.toList.map a.eval ++ ys) := pw_append (pw_append ⟨hl1, hp1⟩ hargs) ⟨hl2, hp2⟩
              refine .inl ?_
              simp only [Oper.wp, run_call (hent e) hop hcal he, Oper.upon]
              refine (hrr e _ _ _ _ _ hr.rel.srel hpw).mono fun e' w' ⟨v, he', hb, hv⟩ => ?_
              subst he'
              exact hB w' v _ hb (hgw w' r v hv e) hK
            · rw [if_neg e]
              exact hW r (by simpa using e) hK
          · exact h.elim
        · exact eff h
        · exact eff h
        · exact eff h
        · exact eff h
        · exact quiet h
      · exact quiet h

/-- A region that draws its order and writes: 'l' tells the moves, 'T' the objects that are written. -/
theorem Tri.moves [Inhabited GlobS] {P : Program} {N : Nat} {Y : YT} {id : Nat} {ops : Array Oper} {st : St} {Q : DExit → St → Prop} (T : List Nat) (l : List (Bool × Nat)) (hk : regB P N ops l = true)
    (h : dmoves P ops (st.s.hide T) T l st st.tm (Q .normal)) : Tri P N Y (.region id ops true) st Q := fun G hN hY β a w R hr hR => by
  simp only [regB, Bool.and_eq_true, decide_eq_true_eq] at hk
  obtain ⟨⟨⟨⟨hm, hsel⟩, hl⟩, hd⟩, hmv⟩ := hk
  have hnd : ∀ o ∈ ops.toList, noDefer o = true := fun o ho => (Bool.and_eq_true_iff.1 (List.all_eq_true.1 hd o ho)).1
  have hd : ∀ o ∈ ops.toList, (o.dst.all fun t => decide (t < G.N)) = true := fun o ho => by
    rw [hN]; exact (Bool.and_eq_true_iff.1 (List.all_eq_true.1 hd o ho)).2
  have hb : BelowD w.heap.size w w.drew := ⟨rfl, rfl, rfl, Nat.le_refl _, fun _ _ => rfl, fun _ => Nat.le_succ _⟩
  have hr' := hr.below hb
  refine wpIn_held hnd (S := Kp (Fr G.w0 G.F0 st.s β) (st.s.hide T) β w.drew) hm ?_
  have := dmoves_sound hr'.srel hsel hd l hmv h (RM.start hr' T) fun st' β' a' w' hQ hr'' => hR .normal _ _ _ _ hQ hr''
  rw [hl] at this
  exact this

end Go.Dl
