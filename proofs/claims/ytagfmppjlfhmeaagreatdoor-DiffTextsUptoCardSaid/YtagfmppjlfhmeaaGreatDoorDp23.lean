/-
  The data-level logic, part 23: calls with a slice that may be nil.
-/
import Derived.Test.YtagfmppjlfhmeaaGreatDoorDp19
import Derived.Sort.Grow
import Derived.Shelf.GgSortFunc.InsertionK
import Derived.HandedShaped
import Derived.WalkSmall
import Derived.LaidLaws
import Derived.Lay
import Derived.MakeChecks
import Derived.Stop.Joined

namespace Go.Dl
open Go Go.RowKit
theorem enters_mark {P : Program} {f : FuncId} (h : entersB P f = true) : entersB P f = true := h
theorem boolT_mark {P : Program} {t : TypeId} (h : isBoolT P t = true) : isBoolT P t = true := h
theorem SCall.nilSplit [Inhabited GlobS] {P : Program} {f : FuncId} {args : List DV} {s : Sto} {K : DV → Sto → Prop} (i : Nat) {sz : Nat} {es : List (List DV)} (ha : args[i]? = some (.lst sz es))
    (h1 : es = [] → SCall P f (args.set i (.v (.slice none 0 0))) s K) (h2 : es = [] → ∀ a c, SCall P f (args.set i (.v (.slice (some a) 0 c))) s K) (h3 : es ≠ [] → SCall P f args s K) : SCall P f args s K := fun w0 F0 β w vals hs hx => by
  have hi : i < args.length := (List.getElem?_eq_some_iff.1 ha).1
  have hi' : i < vals.length := by rw [← hx.1]; exact hi
  have key : ∀ v : Value, v.oneCell' = true → vals[i] = v → Pw w (Fr w0 F0 s β) β (args.set i (.v v)) vals := fun v hv e => by
    refine ⟨by simpa using hx.1, fun j d y hj hy => ?_⟩
    by_cases h : i = j
    · subst h
      rw [List.getElem?_set_self hi] at hj
      rw [List.getElem?_eq_getElem hi'] at hy
      cases hj; cases hy
      rw [e]; exact .data (.v _ hv)
    · rw [List.getElem?_set_ne h] at hj
      exact hx.2 j d y hj hy
  by_cases he : es = []
  · cases hx.2 i _ _ ha (List.getElem?_eq_getElem hi') with
    | data h =>
      generalize hy : vals[i] = y at h
      cases h with
      | lst _ _ a b off cap g h0 hn hc hm hsz hcell hd =>
        subst he
        cases a with
        | none =>
          have : cap = 0 := hn rfl
          subst this
          exact h1 rfl w0 F0 β w vals hs (key _ rfl hy)
        | some a => exact h2 rfl a cap w0 F0 β w vals hs (key _ rfl hy)
  · exact h3 he w0 F0 β w vals hs hx
end Go.Dl

namespace Go.Dl
open Go Go.RowKit
theorem DPure.kit [Inhabited GlobS] {P : Program} {f : FuncId} {args : List Value} {r : DV} (h : ∀ w : World, Gok w → Calls P f args.toArray w fun e w' => ∃ v, e = .returned v ∧ RowKit.Below w.heap.size w w' ∧ ∀ F : Nat → Prop, (∀ b, w.heap.size ≤ b → F b) → RV w' F (fun _ => none) r v)  (hdr : Drs = false := by rfl) :
    DPure P f (args.map .v) r := fun w F vals hg hF hx => by
  have e : vals = args := by
    apply List.ext_getElem?
    intro i
    have hl : args.length = vals.length := by simpa using hx.1
    by_cases hi : i < args.length
    · have h1 : (args.map DV.v)[i]? = some (.v args[i]) := by simp [hi]
      rw [List.getElem?_eq_getElem hi, List.getElem?_eq_getElem (by omega), rv_v (hx.2 i _ _ h1 (List.getElem?_eq_getElem (by omega)))]
    · rw [List.getElem?_eq_none (by omega), List.getElem?_eq_none (by omega)]
  subst e
  refine (h w hg).mono fun e w' ⟨v, he, hb, hr⟩ => ?_
  obtain ⟨k1, _⟩ := (SRel.empty w F hg hF).below' (.of hb fun e => by rw [hdr] at e; cases e)
  refine ⟨v, r, _, _, he, rfl, k1, (hr F hF).mono (fun _ _ h => h) fun b hb hFb => ⟨⟨hFb, ?_⟩, rfl⟩⟩
  rcases Nat.lt_or_ge b w.heap.size with hlt | hge
  · exact .inl hlt
  · exact .inr ⟨hge, fun i c hi => by cases hi⟩
def rowD {α : Type} (enc : α → List Value) (l : List α) : List DV := (l.map fun x => (enc x).map DV.v).flatten
theorem rowD_len {α : Type} (enc : α → List Value) {k : Nat} (hk : ∀ x, (enc x).length = k) (l : List α) : (rowD enc l).length = l.length * k := by
  induction l with
  | nil => simp [rowD]
  | cons x l ih => simp only [rowD, List.map_cons, List.flatten_cons, List.length_append, List.length_map, List.length_cons] at *; rw [ih, hk, Nat.succ_mul]; omega
theorem rowD_get {α : Type} [Inhabited α] (enc : α → List Value) {k : Nat} (hk : ∀ x, (enc x).length = k) (l : List α) (t : Nat) (ht : t < l.length * k) : (rowD enc l)[t]? = some (.v ((Sort.flatK enc k l.toArray)[t]!)) := by
  rw [Sort.get_flatK _ _ _ _ (by simpa using ht)]
  have k0 : 0 < k := by rcases Nat.eq_zero_or_pos k with h | h; · subst h; simp at ht
                        · exact h
  induction l generalizing t with
  | nil => simp at ht
  | cons x l ih =>
    simp only [rowD, List.map_cons, List.flatten_cons]
    rcases Nat.lt_or_ge t k with h | h
    · rw [List.getElem?_append_left (by simp [hk, h]), Nat.div_eq_of_lt h, Nat.mod_eq_of_lt h]
      have : t < (enc x).length := by rw [hk]; exact h
      simp [this]
    · rw [List.getElem?_append_right (by simp [hk, h])]
      have h1 : t - ((enc x).map DV.v).length = t - k := by simp [hk]
      rw [h1]
      have := ih (t - k) (by simp [Nat.succ_mul] at ht; omega)
      simp only [rowD] at this
      rw [this]
      have h2 : t / k = (t - k) / k + 1 := by rw [← Nat.add_div_right _ k0, Nat.sub_add_cancel h]
      have h3 : t % k = (t - k) % k := by rw [Nat.mod_eq_sub_mod h]
      rw [h2, h3]
      simp
theorem SCall.sortedG [Inhabited GlobS] {α : Type} [Inhabited α] {P : Program} {f g : FuncId} {enc : α → List Value} {k : Nat} (hk : ∀ x, (enc x).length = k) (h0 : 0 < k) (h1 : ∀ x, ∀ v ∈ enc x, v.oneCell' = true) {s : Sto} {id len : Nat} {o : DObj} {l l' : List α} {K : DV → Sto → Prop}
    (hob : s.ob id = some o) (_hsz : o.sz = k) (hc : o.cells = rowD enc l) (_hn : len = l.length) (hne : l ≠ []) (hl : l'.length = l.length)
    (hcon : ∀ (blk cap : Nat) (w : World), Sort.HoldsK enc k w blk 0 l.toArray → blk < w.heap.size → (∀ W, BelowD blk w W → Gok W) → Calls P f #[.slice (some ⟨blk, 0, none⟩) len cap, .func (.func g) #[] #[]] w fun e w' => e = .returned (.tuple #[]) ∧ ∃ n os, w' = Go.Proofs.sortWorldK enc k w blk 0 n l'.toArray os)
    (hK : K (.tup []) ⟨upd s.ob id (some { o with cells := rowD enc l' }), s.nx⟩) (hm : Nat.beq o.elem MAPT = false := by rfl) : SCall P f [.arr id len, .clo (.func g) [] []] s K := by
  intro w0 F0 β w vals hs hx
  obtain ⟨hl2, hx⟩ := hx
  match vals, hl2 with
  | [x, y], _ =>
  have hx0 := hx 0 _ _ rfl rfl
  have hx1 := hx 1 _ _ rfl rfl
  obtain ⟨xs, ys, rfl, hl3, hl4, _⟩ := rv_clo hx1
  have e1 : xs = [] := List.length_eq_zero_iff.1 hl3.symm
  have e2 : ys = [] := List.length_eq_zero_iff.1 hl4.symm
  subst e1 e2
  have hpos : 0 < l.length := List.length_pos_iff.2 hne
  have hcl : o.cells.length = l.length * k := by rw [hc, rowD_len enc hk]
  have hpk : 0 < l.length * k := Nat.mul_pos hpos h0
  rcases rv_arr hx0 with ⟨b, c, hb, hle, rfl⟩ | ⟨hb, hz, rfl⟩
  · rcases hs.obs id o hob with g0 | ⟨b', c', cur, g1, g2, g3, g4, g5, g6, g7⟩
    · rw [g0.1] at hb; cases hb
    rw [g1] at hb
    simp only [Option.some.injEq, Prod.mk.injEq] at hb
    obtain ⟨rfl, rfl⟩ := hb
    rw [blk_cells hm] at g3
    have hblt := (Array.getElem?_eq_some_iff.1 g3).1
    have hold : Sort.HoldsK enc k w b' 0 l.toArray := fun j hj => by
      have hj : j < l.length * k := by simpa using hj
      have h2 := rowD_get enc hk l j hj
      rw [← hc] at h2
      obtain ⟨x, hx1, hx2⟩ := g7 j _ h2
      have := rv_v hx2
      subst this
      refine ⟨?_, ?_⟩
      · simp [World.cell?, g3, hx1]
      · simp [World.frozen?, g3]
    refine (hcon b' c' w hold hblt fun W hW => Gok.mono (hs.below.trans (hW.mono g2)) hs.gl).mono fun e w' ⟨he, n, os, hw⟩ => ?_
    generalize hw1 : Sort.putRowK enc k (Sort.ahead w n) b' 0 l'.toArray = w1 at hw
    have hfl : (Sort.flatK enc k l'.toArray).size = l.length * k := by simp [hl]
    have hp1 : w1.heap = w.heap.modify b' (Sort.onCells (Sort.putCells (fun v : Value => v) 0 (Sort.flatK enc k l'.toArray))) := by rw [← hw1]; rfl
    have hoth : ∀ i, i ≠ b' → w1.heap[i]? = w.heap[i]? := fun i hi => by rw [hp1, Array.getElem?_modify, if_neg (fun e => hi e.symm)]
    have hnew : w1.heap[b']? = some (.cells (Sort.putCells (fun v : Value => v) 0 (Sort.flatK enc k l'.toArray) cur) o.elem (0, 0)) := by rw [hp1, Array.getElem?_modify, if_pos rfl, g3]; rfl
    have hbel : BelowD b' w w1 := by
      refine ⟨by rw [← hw1]; rfl, by rw [← hw1]; rfl, by rw [← hw1]; rfl, by rw [hp1]; simp, fun i hi => hoth i (by omega), fun _ => by rw [← hw1]; exact Nat.le_add_right _ _⟩
    have hcs : (Sort.putCells (fun v : Value => v) 0 (Sort.flatK enc k l'.toArray) cur).size = cur.size := by simp [Sort.putCells]
    have hrl : (rowD enc l').length = l.length * k := by rw [rowD_len enc hk, hl]
    obtain ⟨k1, k2⟩ := hs.rewrite id o hob b' c' g1 w1 _ (rowD enc l') hbel hoth (by rw [hnew, blk_cells hm]) (by rw [hcs]; exact g4) (by rw [hcs, hrl, ← hcl]; exact g6) (fun j d hj => by
      have hjl : j < l.length * k := by rw [← hrl]; exact (List.getElem?_eq_some_iff.1 hj).1
      have h2 := rowD_get enc hk l' j (by rw [hl]; exact hjl)
      rw [h2] at hj
      cases hj
      refine ⟨_, ?_, .data (.v _ ?_)⟩
      · have : j < cur.size := by rw [hcl] at g6; omega
        simp only [Sort.putCells, Array.getElem?_mapIdx, Array.getElem?_eq_getElem this, Option.map_some]
        rw [if_pos ⟨Nat.zero_le _, by omega⟩]
        rfl
      · rw [Sort.get_flatK _ _ _ _ (by simpa [hl] using hjl)]
        refine h1 (l'.toArray[j / k]!) _ ?_
        have hm : j % k < (enc l'.toArray[j / k]!).length := by rw [hk]; exact Nat.mod_lt _ h0
        rw [getElem!_pos (enc l'.toArray[j / k]!) (j % k) hm]
        exact List.getElem_mem hm)
    have hw' : w' = Sort.grow w1 os := by rw [hw, ← hw1]; rfl
    have hb2 : BelowD w1.heap.size w1 w' := by
      rw [hw']
      refine ⟨rfl, rfl, rfl, by simp [Sort.grow], fun i hi => ?_, fun _ => Nat.le_refl _⟩
      simp [Sort.grow, Array.getElem?_append, hi]
    obtain ⟨k3, k4⟩ := k1.below' hb2
    exact ⟨_, _, _, β, he, hK, k3, (k2 _).trans (k4 _), Nat.le_refl _, .tup [] [] rfl (fun i d x h => by simp at h)⟩
  · rcases hs.obs id o hob with g0 | ⟨b', c', cur, g1, _⟩
    · rw [g0.2] at hcl; simp at hcl; omega
    · rw [g1] at hb; cases hb
end Go.Dl
namespace Go.Dl
open Go Go.RowKit Go.ChangeShapes
end Go.Dl
namespace Go.Dl
open Go Go.RowKit
theorem mstep_true [Inhabited GlobS] {P : Program} {ops : Array Oper} {T : List Nat} {G : Org} {st0 : St} {β0 : Beta} {ws : World} {R : Exit → Act → World → Prop} (hs0 : SRel G.w0 G.F0 st0.s β0 ws) (hsel : Region.noSelect ops = true)
    (hd : ∀ o ∈ ops.toList, (o.dst.all fun t => decide (t < G.N)) = true) {D : St → (Nat → DV) → Prop} {n i : Nat} {o : Oper} {listed : Array Bool} {st : St} {tv : Nat → DV} {β : Beta} {a : Act} {w : World}
    (m2 : Region.free .any ops listed i = true) (m1 : (Region.ready .any ops listed).contains i = true)
    (hoi : ops[i]? = some o) (hr : RM G st0 β0 ws T st tv β a w)
    (IH : ∀ {st : St} {tv : Nat → DV} {β : Beta} {a : Act} {w : World}, D st tv → RM G st0 β0 ws T st tv β a w → wpAnyH P .any ops (Plain R) (Kp (Fr G.w0 G.F0 st0.s β0) (st0.s.hide T) β0 ws) n (listed.setIfInBounds i true) a w)
    (h : dgd ops o tv fun g => dq P (st0.s.hide T) (ev tv) g o.op fun d => D (st.put o.dst (gw o g d)) (upo tv o.dst (gw o g d))) :
    wpAnyH P .any ops (Plain R) (Kp (Fr G.w0 G.F0 st0.s β0) (st0.s.hide T) β0 ws) (n + 1) listed a w := by
  have hdo := hd o (by simpa using Array.mem_of_getElem? hoi)
  have hupo : ∀ (v : Value) (d : DV), RV ws (Fr G.w0 G.F0 st0.s β0) β0 d v → ∀ t, RV ws (Fr G.w0 G.F0 st0.s β0) β0 (upo tv o.dst d t) ((a.put o.dst v).tmps.getD t undef) := fun v d hv t => by
    cases hdst : o.dst with
    | none => exact hr.vis t
    | some t0 =>
      have hlt : t0 < a.tmps.size := by rw [hr.rel.size]; rw [hdst] at hdo; simpa using hdo
      by_cases e : t = t0
      · subst e
        simp only [upo, upd_same, Act.put]
        rw [Array.getD_eq_getD_getElem?, Array.getElem?_setIfInBounds_self_of_lt hlt]
        exact hv
      · simp only [upo, upd_ne _ _ _ e, Act.put]
        rw [Array.getD_eq_getD_getElem?, Array.getElem?_setIfInBounds_ne (fun h => e h.symm), ← Array.getD_eq_getD_getElem?]
        exact hr.vis t
  obtain ⟨g, h, hg0, hg⟩ := dgd_sound h
  have hg := hg _ _ _ a hr.vis
  obtain ⟨d, hK, hq⟩ := dq_sound _ h
  have hobs : ObsF G.w0 (Fr G.w0 G.F0 st0.s β0) (st0.s.hide T) β0 ws := fun j oj hj => hs0.obs j oj (hide_ob hj).1
  have hev : ∀ x, RV ws (Fr G.w0 G.F0 st0.s β0) β0 (ev tv x) (a.eval x) := fun x => by
    cases x with
    | tmp t => exact hr.vis t
    | const v =>
      simp only [Dl.ev]
      split
      · rename_i hv; exact .data (.v _ hv)
      · exact .dead _
    | global g => exact .data (.v _ rfl)
    | func f => exact .clo (.func f) [] [] [] [] rfl rfl (fun i d x h => by simp at h) (fun i d x h => by simp at h)
  have key : ∃ v, YieldsIf P ops (Kp (Fr G.w0 G.F0 st0.s β0) (st0.s.hide T) β0 ws) o v a ∧ RV ws (Fr G.w0 G.F0 st0.s β0) β0 (gw o g d) v := by
    by_cases e : g = true
    · obtain ⟨v, hv, hrun⟩ := hq e _ _ _ _ _ hobs hev
      refine ⟨v, .inl ⟨by rw [hg]; exact e, fun w' hw' => hrun o w' rfl hw'⟩, ?_⟩
      unfold gw
      split
      · exact hv
      · exact rv_gwhen (fun _ => hv) (fun e' => by rw [e] at e'; cases e')
    · have e' : g = false := by simpa using e
      refine ⟨undef, .inr ⟨by rw [hg]; exact e', rfl⟩, ?_⟩
      unfold gw
      split
      · rename_i e2; exact absurd (hg0 e2) e
      · exact rv_gwhen (fun e2 => absurd e2 e) (fun _ => rfl)
  obtain ⟨v, hy, hv⟩ := key
  refine wpAnyH_take hoi hsel m2 m1 (fun c a w h => h) hy hr.keep (IH hK ⟨hr.rel.put _ hdo _ _ (RV.ext hs0 (Nat.le_refl _) hr.ext hv), hupo v _ hv, ?_, ?_, hr.keep, ?_⟩)
  · have e : (st.put o.dst (gw o g d)).s = st.s := by unfold St.put; split <;> rfl
    rw [e]; exact hr.ext
  · have e : (st.put o.dst (gw o g d)).s = st.s := by unfold St.put; split <;> rfl
    rw [e]; exact hr.mono
  · have e : (st.put o.dst (gw o g d)).s = st.s := by unfold St.put; split <;> rfl
    rw [e]; exact hr.tgt
theorem mstep_false [Inhabited GlobS] {P : Program} {ops : Array Oper} {T : List Nat} {G : Org} {st0 : St} {β0 : Beta} {ws : World} {R : Exit → Act → World → Prop} (_hs0 : SRel G.w0 G.F0 st0.s β0 ws) (_hsel : Region.noSelect ops = true)
    (hd : ∀ o ∈ ops.toList, (o.dst.all fun t => decide (t < G.N)) = true) {D : St → (Nat → DV) → Prop} {n i : Nat} {o : Oper} {listed : Array Bool} {st : St} {tv : Nat → DV} {β : Beta} {a : Act} {w : World}
    (hoi : ops[i]? = some o) (hr : RM G st0 β0 ws T st tv β a w)
    (IH : ∀ {st : St} {tv : Nat → DV} {β : Beta} {a : Act} {w : World}, D st tv → RM G st0 β0 ws T st tv β a w → wpAnyH P .any ops (Plain R) (Kp (Fr G.w0 G.F0 st0.s β0) (st0.s.hide T) β0 ws) n (listed.setIfInBounds i true) a w)
    (h : dgd ops o st.tm fun g => (match o.op with
          | .alloc _ | .box .. | .buildSlice .. | .makeSlice .. | .store .. | .makeMap .. | .mapUpdate .. => meff P T o g st fun st' => D st' (upo tv o.dst .dead)
          | .call c => (match c.callee with
            | .value f => evg g (ev st.tm f) fun df => (match df with
              | .clo (.func fid) first cap => (g = true → entersB P fid = true) ∧ evgs g (c.args.toList.map (ev st.tm)) fun das => MCall P fid (first ++ das ++ cap) st.s g fun r => D (st.put o.dst (gw o g r)) (upo tv o.dst (visD (gw o g r)))
              | _ => False)
            | .builtin .append | .builtin .clear | .builtin .copy | .builtin .delete => meff P T o g st fun st' => D st' (upo tv o.dst .dead)
            | _ => dq P st.s (ev st.tm) g o.op fun d => D (st.put o.dst (gw o g d)) (upo tv o.dst (visD (gw o g d))))
          | op => dq P st.s (ev st.tm) g op fun d => D (st.put o.dst (gw o g d)) (upo tv o.dst (visD (gw o g d))))) :
    wpOp P ops (Plain R) i (fun a' w' => Kp (Fr G.w0 G.F0 st0.s β0) (st0.s.hide T) β0 ws w' ∧ wpAnyH P .any ops (Plain R) (Kp (Fr G.w0 G.F0 st0.s β0) (st0.s.hide T) β0 ws) n (listed.setIfInBounds i true) a' w') a w := by
  have hdo := hd o (by simpa using Array.mem_of_getElem? hoi)
  have hupo : ∀ (v : Value) (d : DV), RV ws (Fr G.w0 G.F0 st0.s β0) β0 d v → ∀ t, RV ws (Fr G.w0 G.F0 st0.s β0) β0 (upo tv o.dst d t) ((a.put o.dst v).tmps.getD t undef) := fun v d hv t => by
    cases hdst : o.dst with
    | none => exact hr.vis t
    | some t0 =>
      have hlt : t0 < a.tmps.size := by rw [hr.rel.size]; rw [hdst] at hdo; simpa using hdo
      by_cases e : t = t0
      · subst e
        simp only [upo, upd_same, Act.put]
        rw [Array.getD_eq_getD_getElem?, Array.getElem?_setIfInBounds_self_of_lt hlt]
        exact hv
      · simp only [upo, upd_ne _ _ _ e, Act.put]
        rw [Array.getD_eq_getD_getElem?, Array.getElem?_setIfInBounds_ne (fun h => e h.symm), ← Array.getD_eq_getD_getElem?]
        exact hr.vis t
  obtain ⟨g, h, hg0, hg⟩ := dgd_sound h
  have hg := hg _ _ _ a hr.rel.tm
  unfold wpOp
  simp only [hoi]
  rw [hg]
  have hwsz : ws.heap.size ≤ w.heap.size := hr.ext.size
  have hB : ∀ (w' : World) (v : Value) (d : DV), BelowD w.heap.size w w' → RV w' (Fr G.w0 G.F0 st.s β) β d v → D (st.put o.dst d) (upo tv o.dst (visD d)) →
      Kp (Fr G.w0 G.F0 st0.s β0) (st0.s.hide T) β0 ws w' ∧ wpAnyH P .any ops (Plain R) (Kp (Fr G.w0 G.F0 st0.s β0) (st0.s.hide T) β0 ws) n (listed.setIfInBounds i true) (a.put o.dst v) w' := fun w' v d hb hv hK => by
    have hkeep : Kp (Fr G.w0 G.F0 st0.s β0) (st0.s.hide T) β0 ws w' := fun b hlt hv => (hb.block b (by omega)).trans (hr.keep b hlt hv)
    have hS : (st.put o.dst d).s = st.s := by unfold St.put; split <;> rfl
    exact ⟨hkeep, IH hK ⟨(hr.rel.below hb).put _ hdo _ _ hv, hupo v _ (rv_visD hv), by rw [hS]; exact hr.ext.trans ((hr.rel.srel.below' hb).2 _), by rw [hS]; exact hr.mono, hkeep, by rw [hS]; exact hr.tgt⟩⟩
  have hW : ∀ (d : DV), g = false → D (st.put o.dst (gw o g d)) (upo tv o.dst (visD (gw o g d))) →
      Kp (Fr G.w0 G.F0 st0.s β0) (st0.s.hide T) β0 ws w ∧ wpAnyH P .any ops (Plain R) (Kp (Fr G.w0 G.F0 st0.s β0) (st0.s.hide T) β0 ws) n (listed.setIfInBounds i true) (a.put o.dst undef) w := fun d e hK => hB w undef _ (BelowD.refl _ _) (by
    unfold gw
    split
    · rename_i e'; exact absurd (hg0 e') (by rw [e]; simp)
    · exact rv_gwhen (fun e' => by rw [e] at e'; cases e') (fun _ => rfl)) hK
  have hgw : ∀ (w' : World) (d : DV) (v : Value), RV w' (Fr G.w0 G.F0 st.s β) β d v → g = true → RV w' (Fr G.w0 G.F0 st.s β) β (gw o g d) v := fun w' d v hv e => by
    unfold gw
    split
    · exact hv
    · exact rv_gwhen (fun _ => hv) (fun e' => by rw [e] at e'; cases e')
  have quiet : (dq P st.s (ev st.tm) g o.op fun d => D (st.put o.dst (gw o g d)) (upo tv o.dst (visD (gw o g d)))) →
    (if g = true then
      Oper.wp P o a w (fun a' w' => Kp (Fr G.w0 G.F0 st0.s β0) (st0.s.hide T) β0 ws w' ∧ wpAnyH P .any ops (Plain R) (Kp (Fr G.w0 G.F0 st0.s β0) (st0.s.hide T) β0 ws) n (listed.setIfInBounds i true) a' w') (Plain R) ∨ Oper.asks P o a w ∧ LetsOut (Plain R)
    else Kp (Fr G.w0 G.F0 st0.s β0) (st0.s.hide T) β0 ws w ∧ wpAnyH P .any ops (Plain R) (Kp (Fr G.w0 G.F0 st0.s β0) (st0.s.hide T) β0 ws) n (listed.setIfInBounds i true) (a.put o.dst undef) w) := fun h => by
    obtain ⟨d, hK, hq⟩ := dq_sound _ h
    by_cases e : g = true
    · rw [if_pos e]
      obtain ⟨v, hv, hrun⟩ := hq e _ _ _ _ _ hr.rel.srel.obsF hr.rel.ev
      refine .inl ?_
      simp only [Oper.wp, hrun o w rfl (fun _ _ _ => rfl)]
      exact hB w v _ (BelowD.refl _ _) (hgw w d v hv e) hK
    · rw [if_neg e]
      exact hW d (by simpa using e) hK
  have eff : (meff P T o g st fun st' => D st' (upo tv o.dst .dead)) →
    (if g = true then
      Oper.wp P o a w (fun a' w' => Kp (Fr G.w0 G.F0 st0.s β0) (st0.s.hide T) β0 ws w' ∧ wpAnyH P .any ops (Plain R) (Kp (Fr G.w0 G.F0 st0.s β0) (st0.s.hide T) β0 ws) n (listed.setIfInBounds i true) a' w') (Plain R) ∨ Oper.asks P o a w ∧ LetsOut (Plain R)
    else Kp (Fr G.w0 G.F0 st0.s β0) (st0.s.hide T) β0 ws w ∧ wpAnyH P .any ops (Plain R) (Kp (Fr G.w0 G.F0 st0.s β0) (st0.s.hide T) β0 ws) n (listed.setIfInBounds i true) (a.put o.dst undef) w) := fun h => by
    clear quiet hgw hW hB
    cases g with
    | true =>
      rw [if_pos rfl]
      obtain ⟨hT, h1⟩ := h.1 rfl
      obtain ⟨nx, v, w', d, s', β', hnx, hrun, hK, k1, k2, k3, k4, k5, k6⟩ := de_sound _ h1 _ _ _ _ _ hr.rel.srel hr.rel.ev
      have hno : ∀ b, b < ws.heap.size → (Fr G.w0 G.F0 st0.s β0 b ∨ ∃ j o c', (st0.s.hide T).ob j = some o ∧ β0 j = some (some (b, c'))) → ∀ τ c, etgt (ev st.tm) o.op = some τ → β τ ≠ some (some (b, c)) := fun b hb hv τ c hτ hβ => by
        rw [hτ] at hT
        simp only [Option.all_some, Bool.and_eq_true] at hT
        have := hr.tgt τ b c hT.2 hβ hb hv
        rw [this] at hT
        cases hT.1
      have hkeep : Kp (Fr G.w0 G.F0 st0.s β0) (st0.s.hide T) β0 ws w' := fun b hb hv => by
        rw [k5 b (by omega) (hno b hb hv)]
        exact hr.keep b hb hv
      have hS : ∀ d', ((st.setS s').put o.dst d').s = s' := fun d' => by unfold St.put St.setS; split <;> rfl
      have hrm : RM G st0 β0 ws T ((st.setS s').put o.dst d) (upo tv o.dst .dead) β' (a.put o.dst v) w' := by
        refine ⟨hr.rel.step k1 k2 k3 _ hdo _ _ k4, hupo v _ (.dead _), ?_, ?_, hkeep, ?_⟩
        · rw [hS]; exact hr.ext.trans (k2.mono hr.mono)
        · rw [hS]; exact Nat.le_trans hr.mono k3
        · rw [hS]
          intro i b c hi hb hlt hv
          rcases k6 i b c hi hb (by omega) with ⟨h2, h3⟩ | ⟨τ, c', h2, h3, h4⟩
          · exact hr.tgt i b c h2 h3 hlt hv
          · exact absurd h4 (hno b hlt hv τ c' h2)
      refine .inl ?_
      simp only [Oper.wp, hrun o rfl]
      rcases hnx with rfl | ⟨rfl, rfl⟩
      · exact ⟨hkeep, IH hK hrm⟩
      · exact ⟨hkeep, IH hK hrm⟩
    | false =>
      rw [if_neg (by simp)]
      have h1 := h.2 rfl
      have hS : (st.put o.dst .dead).s = st.s := by unfold St.put; split <;> rfl
      exact ⟨hr.keep, IH h1 ⟨hr.rel.put _ hdo _ _ (.dead _), hupo _ _ (.dead _), by rw [hS]; exact hr.ext, by rw [hS]; exact hr.mono, hr.keep, by rw [hS]; exact hr.tgt⟩⟩
  split at h
  · exact eff h
  · exact eff h
  · exact eff h
  · exact eff h
  · exact eff h
  · exact eff h
  · exact eff h
  · rename_i c hop
    split at h
    · rename_i x hcal
      obtain ⟨df, h, hdf⟩ := evg_sound _ h
      split at h
      · rename_i fid first cap
        obtain ⟨hent, h⟩ := h
        obtain ⟨das, h, hdas⟩ := evgs_sound _ h
        obtain ⟨r, hrr, hK⟩ := h
        by_cases e : g = true
        · rw [if_pos e]
          obtain ⟨xs, ys, he, hl1, hl2, hp1, hp2⟩ := rv_clo (hdf e _ _ _ _ (hr.rel.ev x))
          have hargs := hdas e _ _ _ _ (pw_ev hr.rel.ev c.args.toList)
          have hpw : Pw w (Fr G.w0 G.F0 st.s β) β (first ++ das ++ cap) (xs ++ c.args.toList.map a.eval ++ ys) := pw_append (pw_append ⟨hl1, hp1⟩ hargs) ⟨hl2, hp2⟩
          refine .inl ?_
          simp only [Oper.wp, run_call (hent e) hop hcal he, Oper.upon]
          refine (hrr e _ _ _ _ _ hr.rel.srel hpw).mono fun e' w' ⟨v, he', hb, hv⟩ => ?_
          subst he'
          exact hB w' v _ hb (hgw w' r v hv e) hK
        · rw [if_neg e]
          exact hW r (by simpa using e) hK
      · exact h.elim
    · exact eff h
    · exact eff h
    · exact eff h
    · exact eff h
    · exact quiet h
  · exact quiet h
inductive MT where
  | done
  | mv (q : Bool) (i : Nat) (t : MT)
  | two (i : Nat) (ti : MT) (j : Nat) (tj : MT)
def MT.list : List (Bool × Nat) → MT → MT
  | [], t => t
  | (q, i) :: l, t => .mv q i (MT.list l t)
def MT.depth : MT → Nat
  | .done => 0
  | .mv _ _ t => t.depth + 1
  | .two _ t _ _ => t.depth + 1
noncomputable def mstepT [Inhabited GlobS] (P : Program) (ops : Array Oper) (sv : Sto) (i : Nat) (st : St) (tv : Nat → DV) (D : St → (Nat → DV) → Prop) : Prop :=
  match ops[i]? with
  | none => False
  | some o => dgd ops o tv fun g => dq P sv (ev tv) g o.op fun d => D (st.put o.dst (gw o g d)) (upo tv o.dst (gw o g d))
noncomputable def mstepF [Inhabited GlobS] (P : Program) (ops : Array Oper) (T : List Nat) (i : Nat) (st : St) (tv : Nat → DV) (D : St → (Nat → DV) → Prop) : Prop :=
  match ops[i]? with
  | none => False
  | some o => dgd ops o st.tm fun g => (match o.op with
          | .alloc _ | .box .. | .buildSlice .. | .makeSlice .. | .store .. | .makeMap .. | .mapUpdate .. => meff P T o g st fun st' => D st' (upo tv o.dst .dead)
          | .call c => (match c.callee with
            | .value f => evg g (ev st.tm f) fun df => (match df with
              | .clo (.func fid) first cap => (g = true → entersB P fid = true) ∧ evgs g (c.args.toList.map (ev st.tm)) fun das => MCall P fid (first ++ das ++ cap) st.s g fun r => D (st.put o.dst (gw o g r)) (upo tv o.dst (visD (gw o g r)))
              | _ => False)
            | .builtin .append | .builtin .clear | .builtin .copy | .builtin .delete => meff P T o g st fun st' => D st' (upo tv o.dst .dead)
            | _ => dq P st.s (ev st.tm) g o.op fun d => D (st.put o.dst (gw o g d)) (upo tv o.dst (visD (gw o g d))))
          | op => dq P st.s (ev st.tm) g op fun d => D (st.put o.dst (gw o g d)) (upo tv o.dst (visD (gw o g d))))
end Go.Dl
