/-
  The data-level logic, part 26: regions in which more than one operation with an effect may come next: each order is told.
-/
import Derived.Test.YtlchjjchgebfiaaGreatDoorDp25

namespace Go.Dl
open Go Go.RowKit
theorem mstep_true [Inhabited GlobS] {P : Program} {ops : Array Oper} {T : List Nat} {G : Org} {st0 : St} {β0 : Beta} {ws : World} {R : Exit → Act → World → Prop} (hs0 : SRel G.w0 G.F0 st0.s β0 ws) (hsel : Region.noSelect ops = true)
    (hd : ∀ o ∈ ops.toList, (o.dst.all fun t => decide (t < G.N)) = true) {D : St → (Nat → DV) → Prop} {n i : Nat} {o : Oper} {listed : Array Bool} {st : St} {tv : Nat → DV} {β : Beta} {a : Act} {w : World}
    (m2 : Region.free .any ops listed i = true) (m1 : (Region.ready .any ops listed).contains i = true)
    (hoi : ops[i]? = some o) (hr : RM G st0 β0 ws T st tv β a w)
    (IH : ∀ {st : St} {tv : Nat → DV} {β : Beta} {a : Act} {w : World}, D st tv → RM G st0 β0 ws T st tv β a w → wpAnyH P .any ops (Plain R) (Kp (Fr G.w0 G.F0 st0.s β0) (st0.s.hide T) β0 ws) n (listed.setIfInBounds i true) a w)
    (h : dgd ops o tv fun g => dq P (st0.s.hide T) (ev tv) g o.op fun d => D (st.put o.dst (gw o g d)) (upo tv o.dst (gw o g d))) :
    wpAnyH P .any ops (Plain R) (Kp (Fr G.w0 G.F0 st0.s β0) (st0.s.hide T) β0 ws) (n + 1) listed a w := by
  have hdo := hd o (by simpa using Array.mem_of_getElem? hoi)
  have hupo : ∀ (v : Value) (d : DV), RV ws (Fr G.w0 G.F0 st0.s β0) β0 d v → ∀ t, RV ws (Fr G.w0 G.F0 st0.s β0) β0 (upo tv o.dst d t) ((a.put o.dst v).tmps.getD t undef) := fun v d hv t => by
    cases hdst : o.dst with
    | none => exact hr.vis t
    | some t0 =>
      have hlt : t0 < a.tmps.size := by rw [hr.rel.size]; rw [hdst] at hdo; simpa using hdo
      by_cases e : t = t0
      · subst e
        simp only [upo, upd_same, Act.put]
        rw [Array.getD_eq_getD_getElem?, Array.getElem?_setIfInBounds_self_of_lt hlt]
        exact hv
      · simp only [upo, upd_ne _ _ _ e, Act.put]
        rw [Array.getD_eq_getD_getElem?, Array.getElem?_setIfInBounds_ne (fun h => e h.symm), ← Array.getD_eq_getD_getElem?]
        exact hr.vis t
  obtain ⟨g, h, hg0, hg⟩ := dgd_sound h
  have hg := hg _ _ _ a hr.vis
  obtain ⟨d, hK, hq⟩ := dq_sound _ h
  have hobs : ObsF G.w0 (Fr G.w0 G.F0 st0.s β0) (st0.s.hide T) β0 ws := fun j oj hj => hs0.obs j oj (hide_ob hj).1
  have hev : ∀ x, RV ws (Fr G.w0 G.F0 st0.s β0) β0 (ev tv x) (a.eval x) := fun x => by
    cases x with
    | tmp t => exact hr.vis t
    | const v =>
      simp only [Dl.ev]
      split
      · rename_i hv; exact .data (.v _ hv)
      · exact .dead _
    | global g => exact .data (.v _ rfl)
    | func f => exact .clo (.func f) [] [] [] [] rfl rfl (fun i d x h => by simp at h) (fun i d x h => by simp at h)
  have key : ∃ v, YieldsIf P ops (Kp (Fr G.w0 G.F0 st0.s β0) (st0.s.hide T) β0 ws) o v a ∧ RV ws (Fr G.w0 G.F0 st0.s β0) β0 (gw o g d) v := by
    by_cases e : g = true
    · obtain ⟨v, hv, hrun⟩ := hq e _ _ _ _ _ hobs hev
      refine ⟨v, .inl ⟨by rw [hg]; exact e, fun w' hw' => hrun o w' rfl hw'⟩, ?_⟩
      unfold gw
      split
      · exact hv
      · exact rv_gwhen (fun _ => hv) (fun e' => by rw [e] at e'; cases e')
    · have e' : g = false := by simpa using e
      refine ⟨undef, .inr ⟨by rw [hg]; exact e', rfl⟩, ?_⟩
      unfold gw
      split
      · rename_i e2; exact absurd (hg0 e2) e
      · exact rv_gwhen (fun e2 => absurd e2 e) (fun _ => rfl)
  obtain ⟨v, hy, hv⟩ := key
  refine wpAnyH_take hoi hsel m2 m1 (fun c a w h => h) hy hr.keep (IH hK ⟨hr.rel.put _ hdo _ _ (RV.ext hs0 (Nat.le_refl _) hr.ext hv), hupo v _ hv, ?_, ?_, hr.keep, ?_⟩)
  · have e : (st.put o.dst (gw o g d)).s = st.s := by unfold St.put; split <;> rfl
    rw [e]; exact hr.ext
  · have e : (st.put o.dst (gw o g d)).s = st.s := by unfold St.put; split <;> rfl
    rw [e]; exact hr.mono
  · have e : (st.put o.dst (gw o g d)).s = st.s := by unfold St.put; split <;> rfl
    rw [e]; exact hr.tgt
theorem mstep_false [Inhabited GlobS] {P : Program} {ops : Array Oper} {T : List Nat} {G : Org} {st0 : St} {β0 : Beta} {ws : World} {R : Exit → Act → World → Prop} (_hs0 : SRel G.w0 G.F0 st0.s β0 ws) (_hsel : Region.noSelect ops = true)
    (hd : ∀ o ∈ ops.toList, (o.dst.all fun t => decide (t < G.N)) = true) {D : St → (Nat → DV) → Prop} {n i : Nat} {o : Oper} {listed : Array Bool} {st : St} {tv : Nat → DV} {β : Beta} {a : Act} {w : World}
    (hoi : ops[i]? = some o) (hr : RM G st0 β0 ws T st tv β a w)
    (IH : ∀ {st : St} {tv : Nat → DV} {β : Beta} {a : Act} {w : World}, D st tv → RM G st0 β0 ws T st tv β a w → wpAnyH P .any ops (Plain R) (Kp (Fr G.w0 G.F0 st0.s β0) (st0.s.hide T) β0 ws) n (listed.setIfInBounds i true) a w)
    (h : dgd ops o st.tm fun g => (match o.op with
          | .alloc _ | .box .. | .buildSlice .. | .makeSlice .. | .store .. | .makeMap .. | .mapUpdate .. => meff P T o g st fun st' => D st' (upo tv o.dst .dead)
          | .call c => (match c.callee with
            | .value f => evg g (ev st.tm f) fun df => (match df with
              | .clo (.func fid) first cap => (g = true → entersB P fid = true) ∧ evgs g (c.args.toList.map (ev st.tm)) fun das => MCall P fid (first ++ das ++ cap) st.s g fun r => D (st.put o.dst (gw o g r)) (upo tv o.dst (visD (gw o g r)))
              | _ => False)
            | .builtin .append | .builtin .clear | .builtin .copy | .builtin .delete => meff P T o g st fun st' => D st' (upo tv o.dst .dead)
            | _ => dq P st.s (ev st.tm) g o.op fun d => D (st.put o.dst (gw o g d)) (upo tv o.dst (visD (gw o g d))))
          | op => dq P st.s (ev st.tm) g op fun d => D (st.put o.dst (gw o g d)) (upo tv o.dst (visD (gw o g d))))) :
    wpOp P ops (Plain R) i (fun a' w' => Kp (Fr G.w0 G.F0 st0.s β0) (st0.s.hide T) β0 ws w' ∧ wpAnyH P .any ops (Plain R) (Kp (Fr G.w0 G.F0 st0.s β0) (st0.s.hide T) β0 ws) n (listed.setIfInBounds i true) a' w') a w := by
  have hdo := hd o (by simpa using Array.mem_of_getElem? hoi)
  have hupo : ∀ (v : Value) (d : DV), RV ws (Fr G.w0 G.F0 st0.s β0) β0 d v → ∀ t, RV ws (Fr G.w0 G.F0 st0.s β0) β0 (upo tv o.dst d t) ((a.put o.dst v).tmps.getD t undef) := fun v d hv t => by
    cases hdst : o.dst with
    | none => exact hr.vis t
    | some t0 =>
      have hlt : t0 < a.tmps.size := by rw [hr.rel.size]; rw [hdst] at hdo; simpa using hdo
      by_cases e : t = t0
      · subst e
        simp only [upo, upd_same, Act.put]
        rw [Array.getD_eq_getD_getElem?, Array.getElem?_setIfInBounds_self_of_lt hlt]
        exact hv
      · simp only [upo, upd_ne _ _ _ e, Act.put]
        rw [Array.getD_eq_getD_getElem?, Array.getElem?_setIfInBounds_ne (fun h => e h.symm), ← Array.getD_eq_getD_getElem?]
        exact hr.vis t
  obtain ⟨g, h, hg0, hg⟩ := dgd_sound h
  have hg := hg _ _ _ a hr.rel.tm
  unfold wpOp
  simp only [hoi]
  rw [hg]
  have hwsz : ws.heap.size ≤ w.heap.size := hr.ext.size
  have hB : ∀ (w' : World) (v : Value) (d : DV), BelowD w.heap.size w w' → RV w' (Fr G.w0 G.F0 st.s β) β d v → D (st.put o.dst d) (upo tv o.dst (visD d)) →
      Kp (Fr G.w0 G.F0 st0.s β0) (st0.s.hide T) β0 ws w' ∧ wpAnyH P .any ops (Plain R) (Kp (Fr G.w0 G.F0 st0.s β0) (st0.s.hide T) β0 ws) n (listed.setIfInBounds i true) (a.put o.dst v) w' := fun w' v d hb hv hK => by
    have hkeep : Kp (Fr G.w0 G.F0 st0.s β0) (st0.s.hide T) β0 ws w' := fun b hlt hv => (hb.block b (by omega)).trans (hr.keep b hlt hv)
    have hS : (st.put o.dst d).s = st.s := by unfold St.put; split <;> rfl
    exact ⟨hkeep, IH hK ⟨(hr.rel.below hb).put _ hdo _ _ hv, hupo v _ (rv_visD hv), by rw [hS]; exact hr.ext.trans ((hr.rel.srel.below' hb).2 _), by rw [hS]; exact hr.mono, hkeep, by rw [hS]; exact hr.tgt⟩⟩
  have hW : ∀ (d : DV), g = false → D (st.put o.dst (gw o g d)) (upo tv o.dst (visD (gw o g d))) →
      Kp (Fr G.w0 G.F0 st0.s β0) (st0.s.hide T) β0 ws w ∧ wpAnyH P .any ops (Plain R) (Kp (Fr G.w0 G.F0 st0.s β0) (st0.s.hide T) β0 ws) n (listed.setIfInBounds i true) (a.put o.dst undef) w := fun d e hK => hB w undef _ (BelowD.refl _ _) (by
    unfold gw
    split
    · rename_i e'; exact absurd (hg0 e') (by rw [e]; simp)
    · exact rv_gwhen (fun e' => by rw [e] at e'; cases e') (fun _ => rfl)) hK
  have hgw : ∀ (w' : World) (d : DV) (v : Value), RV w' (Fr G.w0 G.F0 st.s β) β d v → g = true → RV w' (Fr G.w0 G.F0 st.s β) β (gw o g d) v := fun w' d v hv e => by
    unfold gw
    split
    · exact hv
    · exact rv_gwhen (fun _ => hv) (fun e' => by rw [e] at e'; cases e')
  have quiet : (dq P st.s (ev st.tm) g o.op fun d => D (st.put o.dst (gw o g d)) (upo tv o.dst (visD (gw o g d)))) →
    (if g = true then
      Oper.wp P o a w (fun a' w' => Kp (Fr G.w0 G.F0 st0.s β0) (st0.s.hide T) β0 ws w' ∧ wpAnyH P .any ops (Plain R) (Kp (Fr G.w0 G.F0 st0.s β0) (st0.s.hide T) β0 ws) n (listed.setIfInBounds i true) a' w') (Plain R) ∨ Oper.asks P o a w ∧ LetsOut (Plain R)
    else Kp (Fr G.w0 G.F0 st0.s β0) (st0.s.hide T) β0 ws w ∧ wpAnyH P .any ops (Plain R) (Kp (Fr G.w0 G.F0 st0.s β0) (st0.s.hide T) β0 ws) n (listed.setIfInBounds i true) (a.put o.dst undef) w) := fun h => by
    obtain ⟨d, hK, hq⟩ := dq_sound _ h
    by_cases e : g = true
    · rw [if_pos e]
      obtain ⟨v, hv, hrun⟩ := hq e _ _ _ _ _ hr.rel.srel.obsF hr.rel.ev
      refine .inl ?_
      simp only [Oper.wp, hrun o w rfl (fun _ _ _ => rfl)]
      exact hB w v _ (BelowD.refl _ _) (hgw w d v hv e) hK
    · rw [if_neg e]
      exact hW d (by simpa using e) hK
  have eff : (meff P T o g st fun st' => D st' (upo tv o.dst .dead)) →
    (if g = true then
      Oper.wp P o a w (fun a' w' => Kp (Fr G.w0 G.F0 st0.s β0) (st0.s.hide T) β0 ws w' ∧ wpAnyH P .any ops (Plain R) (Kp (Fr G.w0 G.F0 st0.s β0) (st0.s.hide T) β0 ws) n (listed.setIfInBounds i true) a' w') (Plain R) ∨ Oper.asks P o a w ∧ LetsOut (Plain R)
    else Kp (Fr G.w0 G.F0 st0.s β0) (st0.s.hide T) β0 ws w ∧ wpAnyH P .any ops (Plain R) (Kp (Fr G.w0 G.F0 st0.s β0) (st0.s.hide T) β0 ws) n (listed.setIfInBounds i true) (a.put o.dst undef) w) := fun h => by
    clear quiet hgw hW hB
    cases g with
    | true =>
      rw [if_pos rfl]
      obtain ⟨hT, h1⟩ := h.1 rfl
      obtain ⟨nx, v, w', d, s', β', hnx, hrun, hK, k1, k2, k3, k4, k5, k6⟩ := de_sound _ h1 _ _ _ _ _ hr.rel.srel hr.rel.ev
      have hno : ∀ b, b < ws.heap.size → (Fr G.w0 G.F0 st0.s β0 b ∨ ∃ j o c', (st0.s.hide T).ob j = some o ∧ β0 j = some (some (b, c'))) → ∀ τ c, etgt (ev st.tm) o.op = some τ → β τ ≠ some (some (b, c)) := fun b hb hv τ c hτ hβ => by
        rw [hτ] at hT
        simp only [Option.all_some, Bool.and_eq_true] at hT
        have := hr.tgt τ b c hT.2 hβ hb hv
        rw [this] at hT
        cases hT.1
      have hkeep : Kp (Fr G.w0 G.F0 st0.s β0) (st0.s.hide T) β0 ws w' := fun b hb hv => by
        rw [k5 b (by omega) (hno b hb hv)]
        exact hr.keep b hb hv
      have hS : ∀ d', ((st.setS s').put o.dst d').s = s' := fun d' => by unfold St.put St.setS; split <;> rfl
      have hrm : RM G st0 β0 ws T ((st.setS s').put o.dst d) (upo tv o.dst .dead) β' (a.put o.dst v) w' := by
        refine ⟨hr.rel.step k1 k2 k3 _ hdo _ _ k4, hupo v _ (.dead _), ?_, ?_, hkeep, ?_⟩
        · rw [hS]; exact hr.ext.trans (k2.mono hr.mono)
        · rw [hS]; exact Nat.le_trans hr.mono k3
        · rw [hS]
          intro i b c hi hb hlt hv
          rcases k6 i b c hi hb (by omega) with ⟨h2, h3⟩ | ⟨τ, c', h2, h3, h4⟩
          · exact hr.tgt i b c h2 h3 hlt hv
          · exact absurd h4 (hno b hlt hv τ c' h2)
      refine .inl ?_
      simp only [Oper.wp, hrun o rfl]
      rcases hnx with rfl | ⟨rfl, rfl⟩
      · exact ⟨hkeep, IH hK hrm⟩
      · exact ⟨hkeep, IH hK hrm⟩
    | false =>
      rw [if_neg (by simp)]
      have h1 := h.2 rfl
      have hS : (st.put o.dst .dead).s = st.s := by unfold St.put; split <;> rfl
      exact ⟨hr.keep, IH h1 ⟨hr.rel.put _ hdo _ _ (.dead _), hupo _ _ (.dead _), by rw [hS]; exact hr.ext, by rw [hS]; exact hr.mono, hr.keep, by rw [hS]; exact hr.tgt⟩⟩
  split at h
  · exact eff h
  · exact eff h
  · exact eff h
  · exact eff h
  · exact eff h
  · exact eff h
  · exact eff h
  · rename_i c hop
    split at h
    · rename_i x hcal
      obtain ⟨df, h, hdf⟩ := evg_sound _ h
      split at h
      · rename_i fid first cap
        obtain ⟨hent, h⟩ := h
        obtain ⟨das, h, hdas⟩ := evgs_sound _ h
        obtain ⟨r, hrr, hK⟩ := h
        by_cases e : g = true
        · rw [if_pos e]
          obtain ⟨xs, ys, he, hl1, hl2, hp1, hp2⟩ := rv_clo (hdf e _ _ _ _ (hr.rel.ev x))
          have hargs := hdas e _ _ _ _ (pw_ev hr.rel.ev c.args.toList)
          have hpw : Pw w (Fr G.w0 G.F0 st.s β) β (first ++ das ++ cap) (xs ++ c.args.toList.map a.eval ++ ys) := pw_append (pw_append ⟨hl1, hp1⟩ hargs) ⟨hl2, hp2⟩
          refine .inl ?_
          simp only [Oper.wp, run_call (hent e) hop hcal he, Oper.upon]
          refine (hrr e _ _ _ _ _ hr.rel.srel hpw).mono fun e' w' ⟨v, he', hb, hv⟩ => ?_
          subst he'
          exact hB w' v _ hb (hgw w' r v hv e) hK
        · rw [if_neg e]
          exact hW r (by simpa using e) hK
      · exact h.elim
    · exact eff h
    · exact eff h
    · exact eff h
    · exact eff h
    · exact quiet h
  · exact quiet h
inductive MT where
  | done
  | mv (q : Bool) (i : Nat) (t : MT)
  | two (i : Nat) (ti : MT) (j : Nat) (tj : MT)
def MT.list : List (Bool × Nat) → MT → MT
  | [], t => t
  | (q, i) :: l, t => .mv q i (MT.list l t)
def MT.depth : MT → Nat
  | .done => 0
  | .mv _ _ t => t.depth + 1
  | .two _ t _ _ => t.depth + 1
noncomputable def mstepT [Inhabited GlobS] (P : Program) (ops : Array Oper) (sv : Sto) (i : Nat) (st : St) (tv : Nat → DV) (D : St → (Nat → DV) → Prop) : Prop :=
  match ops[i]? with
  | none => False
  | some o => dgd ops o tv fun g => dq P sv (ev tv) g o.op fun d => D (st.put o.dst (gw o g d)) (upo tv o.dst (gw o g d))
noncomputable def mstepF [Inhabited GlobS] (P : Program) (ops : Array Oper) (T : List Nat) (i : Nat) (st : St) (tv : Nat → DV) (D : St → (Nat → DV) → Prop) : Prop :=
  match ops[i]? with
  | none => False
  | some o => dgd ops o st.tm fun g => (match o.op with
          | .alloc _ | .box .. | .buildSlice .. | .makeSlice .. | .store .. | .makeMap .. | .mapUpdate .. => meff P T o g st fun st' => D st' (upo tv o.dst .dead)
          | .call c => (match c.callee with
            | .value f => evg g (ev st.tm f) fun df => (match df with
              | .clo (.func fid) first cap => (g = true → entersB P fid = true) ∧ evgs g (c.args.toList.map (ev st.tm)) fun das => MCall P fid (first ++ das ++ cap) st.s g fun r => D (st.put o.dst (gw o g r)) (upo tv o.dst (visD (gw o g r)))
              | _ => False)
            | .builtin .append | .builtin .clear | .builtin .copy | .builtin .delete => meff P T o g st fun st' => D st' (upo tv o.dst .dead)
            | _ => dq P st.s (ev st.tm) g o.op fun d => D (st.put o.dst (gw o g d)) (upo tv o.dst (visD (gw o g d))))
          | op => dq P st.s (ev st.tm) g op fun d => D (st.put o.dst (gw o g d)) (upo tv o.dst (visD (gw o g d))))
end Go.Dl


