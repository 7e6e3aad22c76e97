/-
  The data-level logic, part 15: regions that draw their order and write: what only reads is taken first, what writes comes when nothing else can.
-/
import Derived.Test.YtlchjjchgebfiaaGreatDoorDp14
import Derived.OrdersHeld
import Derived.Deep.RegionHeld3

namespace Go.Dl
open Go Go.RowKit
def Sto.hide (s : Sto) (T : List Nat) : Sto := ⟨fun i => if T.contains i = true then none else s.ob i, s.nx⟩
def upo (tv : Nat → DV) (dst : Option Tmp) (d : DV) : Nat → DV := match dst with | some t => upd tv t d | none => tv
def vis1 : DV → DV
  | .v x => .v x
  | _ => .dead
def vis2 : DV → DV
  | .v x => .v x
  | .agg cs => .agg (cs.map vis1)
  | _ => .dead
def visD : DV → DV
  | .v x => .v x
  | .when b (.v x) => .when b (.v x)
  | .agg cs => .agg (cs.map vis1)
  | .tup cs => .tup (cs.map vis2)
  | _ => .dead
theorem rv_vis1 {w w' : World} {F F' : Nat → Prop} {β β' : Beta} {d : DV} {x : Value} (h : RV w F β d x) : RV w' F' β' (vis1 d) x := by
  unfold vis1
  split
  · cases h with
    | data h => cases h with | v _ h => exact .data (.v _ h)
  · exact .dead _
theorem rv_visAgg {w w' : World} {F F' : Nat → Prop} {β β' : Beta} {cs : List DV} {x : Value} (h : RV w F β (.agg cs) x) : RV w' F' β' (.agg (cs.map vis1)) x := by
  obtain ⟨xs, rfl, hl, hp⟩ := rv_agg h
  refine .agg _ _ (by simpa using hl) fun i d y h1 h2 => ?_
  simp only [List.getElem?_map, Option.map_eq_some_iff] at h1
  obtain ⟨c, hc, rfl⟩ := h1
  exact rv_vis1 (hp i c y hc h2)
theorem rv_vis2 {w w' : World} {F F' : Nat → Prop} {β β' : Beta} {d : DV} {x : Value} (h : RV w F β d x) : RV w' F' β' (vis2 d) x := by
  unfold vis2
  split
  · cases h with
    | data h => cases h with | v _ h => exact .data (.v _ h)
  · exact rv_visAgg h
  · exact .dead _
theorem rv_visD {w w' : World} {F F' : Nat → Prop} {β β' : Beta} {d : DV} {x : Value} (h : RV w F β d x) : RV w' F' β' (visD d) x := by
  unfold visD
  split
  · cases h with
    | data h => cases h with | v _ h => exact .data (.v _ h)
  · cases h with
    | data h => cases h
    | whn _ _ _ h1 h2 =>
      refine .whn _ _ _ (fun e => ?_) h2
      cases h1 e with
      | data h => cases h with | v _ h => exact .data (.v _ h)
  · exact rv_visAgg h
  · obtain ⟨xs, rfl, hl, hp⟩ := rv_tup h
    refine .tup _ _ (by simpa using hl) fun i d y h1 h2 => ?_
    simp only [List.getElem?_map, Option.map_eq_some_iff] at h1
    obtain ⟨c, hc, rfl⟩ := h1
    exact rv_vis2 (hp i c y hc h2)
  · exact .dead _
def DSem [Inhabited GlobS] (P : Program) (f : FuncId) (args : List DV) (s : Sto) (r : DV) : Prop :=
  ∀ (w0 : World) (F0 : Nat → Prop) (β : Beta) (w : World) (vals : List Value), SRel w0 F0 s β w → Pw w (Fr w0 F0 s β) β args vals →
    Calls P f vals.toArray w fun e w' => ∃ v, e = .returned v ∧ BelowD w.heap.size w w' ∧ RV w' (Fr w0 F0 s β) β r v
def MCall [Inhabited GlobS] (P : Program) (f : FuncId) (args : List DV) (s : Sto) (g : Bool) (K : DV → Prop) : Prop := ∃ r, (g = true → DSem P f args s r) ∧ K r
noncomputable def meff [Inhabited GlobS] (P : Program) (T : List Nat) (o : Oper) (g : Bool) (st : St) (K : St → Prop) : Prop :=
  (g = true → (etgt (ev st.tm) o.op).all (fun i => T.contains i && (st.s.ob i).isSome) = true ∧ de P st.s (ev st.tm) o.op fun d s' => K ((st.setS s').put o.dst d)) ∧ (g = false → K (st.put o.dst .dead))
structure RM [Inhabited GlobS] (G : Org) (st0 : St) (β0 : Beta) (ws : World) (T : List Nat) (st : St) (tv : Nat → DV) (β : Beta) (a : Act) (w : World) : Prop where
  rel : Rel G st β a w
  vis : ∀ t, RV ws (Fr G.w0 G.F0 st0.s β0) β0 (tv t) (a.tmps.getD t undef)
  ext : Ext st0.s.nx G.w0 nX st0.s β0 ws st.s β w
  mono : st0.s.nx ≤ st.s.nx
  keep : Kp (Fr G.w0 G.F0 st0.s β0) (st0.s.hide T) β0 ws w
  tgt : ∀ i b c, (st.s.ob i).isSome = true → β i = some (some (b, c)) → b < ws.heap.size → (Fr G.w0 G.F0 st0.s β0 b ∨ ∃ j o c', (st0.s.hide T).ob j = some o ∧ β0 j = some (some (b, c'))) → T.contains i = false
theorem hide_ob {s : Sto} {T : List Nat} {j : Nat} {o : DObj} (h : (s.hide T).ob j = some o) : s.ob j = some o ∧ T.contains j = false := by
  unfold Sto.hide at h
  simp only at h
  split at h
  · cases h
  · rename_i hc; exact ⟨h, by simpa using hc⟩
theorem RM.start [Inhabited GlobS] {G : Org} {st : St} {β : Beta} {a : Act} {w : World} (h : Rel G st β a w) (T : List Nat) : RM G st β w T st st.tm β a w :=
  ⟨h, h.tm, .refl, Nat.le_refl _, fun _ _ _ => rfl, fun i b c hi hb hlt hv => by
    obtain ⟨o, ho⟩ := Option.isSome_iff_exists.1 hi
    rcases h.srel.obs i o ho with g | ⟨b', c', cur, g1, g2, _⟩
    · rw [g.1] at hb; cases hb
    rw [g1] at hb
    simp only [Option.some.injEq, Prod.mk.injEq] at hb
    obtain ⟨rfl, rfl⟩ := hb
    rcases hv with ⟨_, (hF | hF)⟩ | ⟨j, oj, cj, hj, hbj⟩
    · omega
    · exact absurd g1 (hF.2 i _ hi)
    · obtain ⟨h1, h2⟩ := hide_ob hj
      have e := h.srel.inj i j _ _ _ hi (by simp [h1]) g1 hbj
      rw [e]; exact h2⟩
theorem plain_normal {R : Exit → Act → World → Prop} {a : Act} {w : World} (h : R .normal a w) : Plain R .normal a w := h
end Go.Dl


