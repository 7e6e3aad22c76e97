/-
  The data-level logic, part 21: the frame: a call that is known at a store of its own objects alone, met where there are others.
-/
import Derived.Test.YtlchjjchgebfiaaGreatDoorDp20

namespace Go.Dl
open Go Go.RowKit
def backR (ids : List Nat) (snx n1 : Nat) : Nat → Option Nat := fun i =>
  bif Nat.blt i snx then (match ids.idxOf? i with | some j => some j | none => some (i + n1)) else some (i - snx + ids.length)
def idRl (ids : List Nat) : List (Nat × Option Nat) := ids.zipIdx.map fun p => (p.2, some p.1)
def joinS (s : Sto) (ids : List Nat) (lm : List (Nat × DObj)) (nx : Nat) : Sto :=
  ⟨fun i => match lm.lookup i with | some o => some o | none => bif ids.contains i then none else s.ob i, nx⟩
theorem idRl_lookup (ids : List Nat) (j : Nat) (hj : j < ids.length) : (idRl ids).lookup j = some (some ids[j]) := by
  have key : ∀ (l : List Nat) (k j : Nat) (hj : j < l.length), ((l.zipIdx k).map fun p => (p.2, some p.1)).lookup (k + j) = some (some l[j]) := by
    intro l
    induction l with
    | nil => intro k j hj; cases hj
    | cons a l ih =>
      intro k j hj
      cases j with
      | zero => simp
      | succ j =>
        simp only [List.zipIdx_cons, List.map_cons, List.lookup_cons]
        have : ((k + (j + 1)) == k) = false := by simp
        rw [this]
        have := ih (k + 1) j (by simpa using hj)
        rw [show k + 1 + j = k + (j + 1) by omega] at this
        simpa using this
  have := key ids 0 j hj
  simpa [idRl] using this
theorem SCall.frame [Inhabited GlobS] {P : Program} {f : FuncId} {args : List DV} {s : Sto} {K : DV → Sto → Prop} (ids : List Nat) (lm : List (Nat × DObj)) (r : DV) (nx' : Nat) {l0 l1 : List (Nat × DObj)} {args0 : List DV} {r0 : DV} {n1 : Nat}
    (h : SCall P f args0 (.of l0 ids.length) fun r' s' => r' = r0 ∧ s' = .of l1 n1)
    (hc : (chkS (idRl ids) 0 s.nx ids.length (l0.map (·.1)) [] && (List.range ids.length).all (fun j => (l0.lookup j).isSome) && ids.all (fun k => decide (k < s.nx)) && decide (s.nx + (n1 - ids.length) ≤ nx') && lm.all (fun p => decide (p.1 < nx'))) = true)
    (ho : allP (fun p => match rho (idRl ids) 0 s.nx p.1 with
      | some k => (match s.ob k with | some o => OW (rho (idRl ids) 0 s.nx) s (· ∈ []) o p.2 | none => False)
      | none => p.2.cells = []) l0)
    (ha : DWl (rho (idRl ids) 0 s.nx) s (· ∈ []) args args0)
    (hr : DW (backR ids s.nx n1) (.of l1 n1) (fun _ => False) r0 r)
    (hm : allP (fun p => match backR ids s.nx n1 p.1 with
      | some k => (match (Sto.of l1 n1).ob k with | some o => OW (backR ids s.nx n1) (.of l1 n1) (fun _ => False) o p.2 | none => False)
      | none => False) lm)
    (hK : K r (joinS s ids lm nx')) : SCall P f args s K := by
  intro w0 F0 β w vals hs hx
  simp only [Bool.and_eq_true, List.all_eq_true, decide_eq_true_eq, List.mem_range] at hc
  obtain ⟨⟨⟨⟨hc1, hcov⟩, hids⟩, hnx'⟩, hlm⟩ := hc
  have hsw := SW.of hc1 ho
  -- the callee's blocks of data
  let F1 : Nat → Prop := fun b => F0 b ∧ ∀ i c, i ∉ ids → (s.ob i).isSome = true → β i ≠ some (some (b, c))
  have hρ : ∀ j (hj : j < ids.length), rho (idRl ids) 0 s.nx j = some ids[j] := fun j hj => by unfold rho; rw [idRl_lookup ids j hj]
  have hρ' : ∀ i k, ((Sto.of l0 ids.length).ob i).isSome = true → rho (idRl ids) 0 s.nx i = some k → k ∈ ids := fun i k hi hk => by
    obtain ⟨o, ho'⟩ := Option.isSome_iff_exists.1 hi
    have := (hsw.ob i o ho').1
    have hi' : i < ids.length := this
    rw [hρ i hi'] at hk
    cases hk
    exact List.getElem_mem _
  obtain ⟨g1, g2, g3⟩ := hsw.stepF F1 hs (fun b hF => ⟨hF.1, fun i c hi ho' hb => by
      rcases hF.2 with hlt | ⟨_, hno⟩
      · obtain ⟨o, ho''⟩ := Option.isSome_iff_exists.1 ho'
        rcases hs.obs i o ho'' with g | ⟨b', c', cur, e1, e2, _⟩
        · rw [g.1] at hb; cases hb
        · rw [e1] at hb; cases hb; omega
      · exact hno i c ho' hb⟩)
    (fun k b c hk hb hor => by
      rcases hor with hp | ⟨i, hi, hρi⟩
      · cases hp
      · refine ⟨hs.own k b c hk hb, fun i' c' hni hi' hb' => hni ?_⟩
        have e := hs.inj i' k b c' c hi' hk hb' hb
        rw [e]; exact hρ' i k hi hρi)
    (fun b hb => ⟨hs.up b hb, fun i c _ ho' hβ => (hs.frUp b hb).2.elim (fun hlt => by have := hs.below.size; omega) (fun hno => hno.2 i c ho' hβ)⟩)
  generalize hβ0 : reβ (rho (idRl ids) 0 s.nx) β (Sto.of l0 ids.length).nx = β0 at g1 g2 g3
  have hx0 : Pw w (Fr w0 F1 (.of l0 ids.length) β0) β0 args0 vals := by
    refine ⟨by rw [← ha.1]; exact hx.1, fun i d' x h1 h2 => ?_⟩
    have hi : i < args.length := by rw [ha.1]; exact (List.getElem?_eq_some_iff.1 h1).1
    exact g3 (ha.2 i _ _ (List.getElem?_eq_getElem hi) h1) (hx.2 i _ _ (List.getElem?_eq_getElem hi) h2)
  refine (h w0 F1 β0 w vals g1 hx0).mono fun e w' ⟨v, r', s', β', he, ⟨hq1, hq2⟩, k1, k2, k3, k4⟩ => ?_
  subst hq1 hq2
  have hn1 : ids.length ≤ n1 := k3
  let β2 : Beta := fun i => if i < s.nx then β i else β' (i - s.nx + ids.length)
  -- where the callee's own objects lay, they lie
  have hβ0j : ∀ j (hj : j < ids.length), β0 j = β ids[j] := fun j hj => by
    rw [← hβ0]
    simp only [reβ, Sto.of, if_pos hj, hρ j hj]
  have hβ'j : ∀ j (hj : j < ids.length), β' j = β ids[j] := fun j hj => by
    have hcv := hcov j hj
    obtain ⟨o, ho'⟩ := Option.isSome_iff_exists.1 hcv
    have hsm : ∃ p, β0 j = some p := by
      rcases g1.obs j o ho' with g | ⟨b, c, _, g, _⟩
      · exact ⟨_, g.1⟩
      · exact ⟨_, g⟩
    obtain ⟨p, hp⟩ := hsm
    rw [k2.grow j hj p hp, ← hβ0j j hj, hp]
  have factB : ∀ i k, backR ids s.nx n1 i = some k → ((Sto.of l1 n1).ob k).isSome = true → β2 i = β' k ∧ ((i < s.nx ∧ ∃ hk : k < ids.length, ids[k] = i) ∨ (s.nx ≤ i ∧ ids.length ≤ k ∧ i = k - ids.length + s.nx)) := fun i k hb hk => by
    unfold backR at hb
    cases hlt : Nat.blt i s.nx with
    | true =>
      have hlt' : i < s.nx := by simpa [Nat.blt_eq] using hlt
      simp only [hlt, cond_true] at hb
      split at hb
      · rename_i j hj
        cases hb
        have hj' := List.idxOf?_eq_some_iff.1 hj
        obtain ⟨h1, h2, _⟩ := hj'
        refine ⟨?_, .inl ⟨hlt', h1, by simpa using h2⟩⟩
        simp only [β2, if_pos hlt']
        rw [hβ'j k h1]
        congr 1
        simpa using h2.symm
      · cases hb
        obtain ⟨o, ho'⟩ := Option.isSome_iff_exists.1 hk
        have := (k1.nx (i + n1) (by show n1 ≤ i + n1; omega)).2
        rw [ho'] at this; cases this
    | false =>
      have hge : s.nx ≤ i := by
        rcases Nat.lt_or_ge i s.nx with h | h
        · rw [← Nat.blt_eq] at h; rw [h] at hlt; cases hlt
        · exact h
      simp only [hlt, cond_false, Option.some.injEq] at hb
      subst hb
      refine ⟨?_, .inr ⟨hge, by omega, by omega⟩⟩
      simp only [β2, if_neg (Nat.not_lt.2 hge)]
  have lmO : ∀ i o, lm.lookup i = some o → ∃ k ok, backR ids s.nx n1 i = some k ∧ (Sto.of l1 n1).ob k = some ok ∧ OW (backR ids s.nx n1) (.of l1 n1) (fun _ => False) ok o := fun i o hl => by
    have := allP_mem hm _ (mem_of_lookup hl)
    simp only at this
    split at this
    · rename_i k hk
      split at this
      · rename_i ok hok; exact ⟨k, ok, hk, hok, this⟩
      · exact this.elim
    · exact this.elim
  have jO : ∀ i o, (joinS s ids lm nx').ob i = some o → (lm.lookup i = some o) ∨ (lm.lookup i = none ∧ i ∉ ids ∧ s.ob i = some o) := fun i o hj => by
    unfold joinS at hj
    simp only at hj
    split at hj
    · rename_i o' ho'; cases hj; exact .inl ho'
    · rename_i hn
      cases hci : ids.contains i with
      | true => rw [hci] at hj; cases hj
      | false => rw [hci] at hj; exact .inr ⟨hn, by simpa using hci, hj⟩
  have oth : ∀ i o b c, i ∉ ids → s.ob i = some o → β i = some (some (b, c)) → b < w.heap.size ∧ w0.heap.size ≤ b ∧ Un w0 (.of l0 ids.length) β0 b := fun i o b c hi ho' hb => by
    rcases hs.obs i o ho' with g | ⟨b', c', cur, e1, e2, e3, _⟩
    · rw [g.1] at hb; cases hb
    rw [e1] at hb
    simp only [Option.some.injEq, Prod.mk.injEq] at hb
    obtain ⟨rfl, rfl⟩ := hb
    refine ⟨(Array.getElem?_eq_some_iff.1 e3).1, e2, .inr ⟨e2, fun j c2 hj hbj => ?_⟩⟩
    obtain ⟨oj, hoj⟩ := Option.isSome_iff_exists.1 hj
    have hjl : j < ids.length := (hsw.ob j oj hoj).1
    rw [hβ0j j hjl] at hbj
    have hobj : (s.ob ids[j]).isSome = true := by
      have := (hsw.ob j oj hoj).2
      rw [hρ j hjl] at this
      obtain ⟨o2, ho2, _⟩ := this
      rw [ho2]; rfl
    have e := hs.inj ids[j] i b' c2 c' hobj (by rw [ho']; rfl) hbj e1
    exact hi (by rw [← e]; exact List.getElem_mem _)
  have keep : ∀ i o b c, i ∉ ids → s.ob i = some o → β i = some (some (b, c)) → Un w0 (.of l1 n1) β' b ∧ w'.heap[b]? = w.heap[b]? := fun i o b c hi ho' hb => by
    obtain ⟨q1, _, q3⟩ := oth i o b c hi ho' hb
    exact k2.fr b q1 (fun h => h) q3
  have hlt_s : ∀ i o, s.ob i = some o → i < s.nx := fun i o ho' => by
    rcases Nat.lt_or_ge i s.nx with h | h
    · exact h
    · have := (hs.nx i h).2; rw [ho'] at this; cases this
  -- unowned by the callee's and by the others is unowned
  have hUU : ∀ b, Un w0 (.of l1 n1) β' b → (∀ i c, i ∉ ids → (s.ob i).isSome = true → β i ≠ some (some (b, c))) → Un w0 (joinS s ids lm nx') β2 b := fun b hU hno => by
    rcases hU with hlt | ⟨hge, hu⟩
    · exact .inl hlt
    · refine .inr ⟨hge, fun i c hi hb => ?_⟩
      obtain ⟨o, ho'⟩ := Option.isSome_iff_exists.1 hi
      rcases jO i o ho' with hl | ⟨_, hni, hso⟩
      · obtain ⟨k, ok, e1, e2, _⟩ := lmO i o hl
        have := (factB i k e1 (by rw [e2]; rfl)).1
        rw [this] at hb
        exact hu k c (by rw [e2]; rfl) hb
      · simp only [β2, if_pos (hlt_s i o hso)] at hb
        exact hno i c hni (by rw [hso]; rfl) hb
  have hFF : ∀ b, Fr w0 F1 (.of l1 n1) β' b → Fr w0 F0 (joinS s ids lm nx') β2 b := fun b hF => ⟨hF.1.1, hUU b hF.2 hF.1.2⟩
  have hSU : ∀ b, b < w.heap.size → Un w0 s β b → Un w0 (joinS s ids lm nx') β2 b ∧ w'.heap[b]? = w.heap[b]? := fun b hb hU => by
    have hU0 : Un w0 (.of l0 ids.length) β0 b := (g2.fr b hb (fun h => h) hU).1
    obtain ⟨q1, q2⟩ := k2.fr b hb (fun h => h) hU0
    refine ⟨hUU b q1 fun i c _ hi hbi => ?_, q2⟩
    rcases hU with hlt | ⟨_, hu⟩
    · obtain ⟨o, ho'⟩ := Option.isSome_iff_exists.1 hi
      rcases hs.obs i o ho' with g | ⟨b', c', cur, e1, e2, _⟩
      · rw [g.1] at hbi; cases hbi
      · rw [e1] at hbi; cases hbi; omega
    · exact hu i c hi hbi
  have hext : Ext s.nx w0 nX s β w (joinS s ids lm nx') β2 w' := ⟨fun i hi p hp => by simp only [β2, if_pos hi]; exact hp, k2.size, fun b hb _ hU => hSU b hb hU⟩
  have hrv : ∀ {d d' : DV} {x : Value}, DW (backR ids s.nx n1) (.of l1 n1) (fun _ => False) d d' → RV w' (Fr w0 F1 (.of l1 n1) β') β' d x → RV w' (Fr w0 F0 (joinS s ids lm nx') β2) β2 d' x := fun hd hv =>
    hd.rv k1 (fun b _ hF => hFF b hF) (fun _ _ _ h => h.elim) (fun i k p hb hp => by
      unfold backR at hb
      cases hlt : Nat.blt i s.nx with
      | true =>
        have hlt' : i < s.nx := by simpa [Nat.blt_eq] using hlt
        simp only [hlt, cond_true] at hb
        split at hb
        · rename_i j hj
          cases hb
          obtain ⟨h1, h2, _⟩ := List.idxOf?_eq_some_iff.1 hj
          simp only [β2, if_pos hlt']
          rw [hβ'j k h1] at hp
          have e : ids[k] = i := by simpa using h2
          rw [← e]; exact hp
        · cases hb
          rw [(k1.nx (i + n1) (by show n1 ≤ i + n1; omega)).1] at hp; cases hp
      | false =>
        have hge : ¬ i < s.nx := fun h => by rw [← Nat.blt_eq] at h; rw [h] at hlt; cases hlt
        simp only [hlt, cond_false, Option.some.injEq] at hb
        subst hb
        simp only [β2, if_neg hge]; exact hp)
      (fun i hb => by
        unfold backR at hb
        cases hlt : Nat.blt i s.nx with
        | true => simp only [hlt, cond_true] at hb; split at hb <;> cases hb
        | false => simp only [hlt, cond_false] at hb; cases hb) hv
  have hsnx : s.nx ≤ nx' := by omega
  refine ⟨v, r, joinS s ids lm nx', β2, he, hK, ⟨k1.below, fun i o hj => ?_, fun i j b c c' hi hj hbi hbj => ?_, fun i hi => ?_, fun b hb => (k1.up b hb).1, fun i b c hi hb => ?_, k1.gl⟩, hext, hsnx, hrv hr k4⟩
  · rcases jO i o hj with hl | ⟨_, hni, hso⟩
    · obtain ⟨k, ok, e1, e2, e3, e4, e5, e6⟩ := lmO i o hl
      have hb2 := (factB i k e1 (by rw [e2]; rfl)).1
      rcases k1.obs k ok e2 with g | ⟨b', c', cur, q1, q2, q3, q4, q5, q6, q7⟩
      · refine .inl ⟨by rw [hb2]; exact g.1, ?_⟩
        have := g.2
        rw [this] at e5
        exact List.length_eq_zero_iff.1 (by simpa using e5)
      · refine .inr ⟨b', c', cur, by rw [hb2]; exact q1, q2, by rw [← e3]; exact q3, by rw [← e4]; exact q4, q5, by omega, fun j d hjd => ?_⟩
        have hjl : j < o.cells.length := (List.getElem?_eq_some_iff.1 hjd).1
        have hjo : ok.cells[j]? = some (ok.cells[j]'(by omega)) := List.getElem?_eq_getElem _
        obtain ⟨x, hx', hr'⟩ := q7 j _ hjo
        refine ⟨x, hx', hrv (e6.2 j _ _ ?_ hjd) hr'⟩
        rw [List.getElem?_take, if_pos hjl]
        exact hjo
    · have hil := hlt_s i o hso
      rcases hs.obs i o hso with g | ⟨b', c', cur, q1, q2, q3, q4, q5, q6, q7⟩
      · exact .inl ⟨by simp only [β2, if_pos hil]; exact g.1, g.2⟩
      · refine .inr ⟨b', c', cur, by simp only [β2, if_pos hil]; exact q1, q2, by rw [(keep i o b' c' hni hso q1).2]; exact q3, q4, q5, q6, fun j d hjd => ?_⟩
        obtain ⟨x, hx', hr'⟩ := q7 j d hjd
        exact ⟨x, hx', RV.ext hs (Nat.le_refl _) hext hr'⟩
  · obtain ⟨oi, hoi⟩ := Option.isSome_iff_exists.1 hi
    obtain ⟨oj, hoj⟩ := Option.isSome_iff_exists.1 hj
    have cross : ∀ i o k ok b c c', i ∉ ids → s.ob i = some o → β i = some (some (b, c)) → (Sto.of l1 n1).ob k = some ok → β' k = some (some (b, c')) → False := fun i o k ok b c c' hni hso hb hk hbk => by
      have hU := (keep i o b c hni hso hb).1
      obtain ⟨_, q2, _⟩ := oth i o b c hni hso hb
      rcases hU with hlt | ⟨_, hu⟩
      · omega
      · exact hu k c' (by rw [hk]; rfl) hbk
    rcases jO i oi hoi with hl | ⟨_, hni, hso⟩
    · obtain ⟨k, ok, e1, e2, _⟩ := lmO i oi hl
      obtain ⟨fb, fi⟩ := factB i k e1 (by rw [e2]; rfl)
      rw [fb] at hbi
      rcases jO j oj hoj with hl' | ⟨_, hni', hso'⟩
      · obtain ⟨k', ok', e1', e2', _⟩ := lmO j oj hl'
        obtain ⟨fb', fi'⟩ := factB j k' e1' (by rw [e2']; rfl)
        rw [fb'] at hbj
        have e := k1.inj k k' b c c' (by rw [e2]; rfl) (by rw [e2']; rfl) hbi hbj
        subst e
        rcases fi with ⟨_, q1, q2⟩ | ⟨_, q1, q2⟩
        · rcases fi' with ⟨_, q1', q2'⟩ | ⟨_, q1', q2'⟩
          · rw [← q2, ← q2']
          · omega
        · rcases fi' with ⟨_, q1', q2'⟩ | ⟨_, q1', q2'⟩
          · omega
          · rw [q2, q2']
      · simp only [β2, if_pos (hlt_s j oj hso')] at hbj
        exact (cross j oj k ok b c' c hni' hso' hbj e2 hbi).elim
    · simp only [β2, if_pos (hlt_s i oi hso)] at hbi
      rcases jO j oj hoj with hl' | ⟨_, hni', hso'⟩
      · obtain ⟨k', ok', e1', e2', _⟩ := lmO j oj hl'
        obtain ⟨fb', _⟩ := factB j k' e1' (by rw [e2']; rfl)
        rw [fb'] at hbj
        exact (cross i oi k' ok' b c c' hni hso hbi e2' hbj).elim
      · simp only [β2, if_pos (hlt_s j oj hso')] at hbj
        exact hs.inj i j b c c' (by rw [hso]; rfl) (by rw [hso']; rfl) hbi hbj
  · have hi' : nx' ≤ i := hi
    have hge : ¬ i < s.nx := by omega
    refine ⟨?_, ?_⟩
    · simp only [β2, if_neg hge]
      exact (k1.nx _ (by show n1 ≤ i - s.nx + ids.length; omega)).1
    · cases hj : (joinS s ids lm nx').ob i with
      | none => rfl
      | some o =>
        rcases jO i o hj with hl | ⟨_, _, hso⟩
        · have := hlm _ (mem_of_lookup hl); simp only at this; omega
        · exact absurd (hlt_s i o hso) hge
  · obtain ⟨o, hj⟩ := Option.isSome_iff_exists.1 hi
    rcases jO i o hj with hl | ⟨_, hni, hso⟩
    · obtain ⟨k, ok, e1, e2, _⟩ := lmO i o hl
      rw [(factB i k e1 (by rw [e2]; rfl)).1] at hb
      exact (k1.own k b c (by rw [e2]; rfl) hb).1
    · simp only [β2, if_pos (hlt_s i o hso)] at hb
      exact hs.own i b c (by rw [hso]; rfl) hb
theorem SCall.at [Inhabited GlobS] {P : Program} {f : FuncId} {args : List DV} {s : Sto} {K : DV → Sto → Prop} (ids : List Nat) (lm : Nat → List (Nat × DObj)) (r : Nat → DV) (k : Nat) {l0 l1 : List (Nat × DObj)} {args0 : List DV} {r0 : DV} {n1 : Nat}
    (h : SCall P f args0 (.of l0 ids.length) fun r' s' => r' = r0 ∧ s' = .of l1 n1)
    (hc : (chkS (idRl ids) 0 s.nx ids.length (l0.map (·.1)) [] && (List.range ids.length).all (fun j => (l0.lookup j).isSome) && ids.all (fun k => decide (k < s.nx)) && decide (s.nx + (n1 - ids.length) ≤ s.nx + k) && (lm s.nx).all (fun p => decide (p.1 < s.nx + k))) = true)
    (ho : allP (fun p => match rho (idRl ids) 0 s.nx p.1 with
      | some k => (match s.ob k with | some o => OW (rho (idRl ids) 0 s.nx) s (· ∈ []) o p.2 | none => False)
      | none => p.2.cells = []) l0)
    (ha : DWl (rho (idRl ids) 0 s.nx) s (· ∈ []) args args0)
    (hr : DW (backR ids s.nx n1) (.of l1 n1) (fun _ => False) r0 (r s.nx))
    (hm : allP (fun p => match backR ids s.nx n1 p.1 with
      | some k => (match (Sto.of l1 n1).ob k with | some o => OW (backR ids s.nx n1) (.of l1 n1) (fun _ => False) o p.2 | none => False)
      | none => False) (lm s.nx))
    (hK : K (r s.nx) (joinS s ids (lm s.nx) (s.nx + k))) : SCall P f args s K := SCall.frame ids (lm s.nx) (r s.nx) (s.nx + k) h hc ho ha hr hm hK
def pubS (s : Sto) (T : List Nat) (l : List (Nat × DObj)) : Sto := ⟨fun i => match l.lookup i with | some o => some o | none => (s.hide T).ob i, s.nx⟩
theorem SRel.pub [Inhabited GlobS] {w0 : World} {F0 : Nat → Prop} {s : Sto} {β : Beta} {w : World} (h : SRel w0 F0 s β w) (T : List Nat) (l : List (Nat × DObj))
    (ho : allP (fun p => match s.ob p.1 with
      | some o => T.contains p.1 = false ∧ o.elem = p.2.elem ∧ o.sz = p.2.sz ∧ DWl (fun i => some i) s (Gv s T) o.cells p.2.cells
      | none => False) l) :
    SRel w0 F0 (pubS s T l) β w ∧ (∀ n, Ext n w0 nX s β w (pubS s T l) β w) ∧
      ∀ {d d' : DV} {x : Value}, DW (fun i => some i) s (Gv s T) d d' → RV w (Fr w0 F0 s β) β d x → RV w (Fr w0 F0 (pubS s T l) β) β d' x := by
  have hl : ∀ i o', l.lookup i = some o' → ∃ o, s.ob i = some o ∧ T.contains i = false ∧ o.elem = o'.elem ∧ o.sz = o'.sz ∧ DWl (fun i => some i) s (Gv s T) o.cells o'.cells := fun i o' hi => by
    have := allP_mem ho _ (mem_of_lookup hi)
    simp only at this
    split at this
    · rename_i o hso; exact ⟨o, hso, this⟩
    · exact this.elim
  have hob : ∀ i o', (pubS s T l).ob i = some o' → (s.ob i).isSome = true ∧ T.contains i = false := fun i o' hi => by
    unfold pubS at hi
    simp only at hi
    split at hi
    · rename_i o2 h2
      obtain ⟨o, k1, k2, _⟩ := hl i o2 h2
      exact ⟨by rw [k1]; rfl, k2⟩
    · obtain ⟨k1, k2⟩ := hide_ob hi
      exact ⟨by rw [k1]; rfl, k2⟩
  have hsome : ∀ i, ((pubS s T l).ob i).isSome = true → (s.ob i).isSome = true := fun i hi => by
    obtain ⟨o, ho'⟩ := Option.isSome_iff_exists.1 hi
    exact (hob i o ho').1
  have hU : ∀ b, Un w0 s β b → Un w0 (pubS s T l) β b := fun b hF => by
    rcases hF with hF | hF
    · exact .inl hF
    · exact .inr ⟨hF.1, fun i c hi => hF.2 i c (hsome i hi)⟩
  have hrv : ∀ {d d' : DV} {x : Value}, DW (fun i => some i) s (Gv s T) d d' → RV w (Fr w0 F0 s β) β d x → RV w (Fr w0 F0 (pubS s T l) β) β d' x := fun hd hx => by
    refine hd.rv h (fun b _ hF => ⟨hF.1, hU b hF.2⟩) (fun id b c hid hb => ?_) (fun i k p e hp => by cases e; exact hp) (fun i e => by cases e) hx
    obtain ⟨hid, hobi⟩ := hid
    obtain ⟨o, ho'⟩ := Option.isSome_iff_exists.1 hobi
    have hge : w0.heap.size ≤ b := by
      rcases h.obs id o ho' with k1 | ⟨b2, c2, cur2, k1, k2, _⟩
      · rw [k1.1] at hb; cases hb
      · rw [k1] at hb; cases hb; exact k2
    refine ⟨h.own id b c hobi hb, .inr ⟨hge, fun i c' hi hb' => ?_⟩⟩
    obtain ⟨oi, hoi⟩ := Option.isSome_iff_exists.1 hi
    obtain ⟨q1, q2⟩ := hob i oi hoi
    have e := h.inj i id b c' c q1 hobi hb' hb
    rw [e] at q2
    simp at q2
    exact q2 hid
  have hext : ∀ n, Ext n w0 nX s β w (pubS s T l) β w := fun n => ⟨fun _ _ _ hp => hp, Nat.le_refl _, fun b _ _ hF => ⟨hU b hF, rfl⟩⟩
  refine ⟨⟨h.below, fun i oi hi => ?_, fun i j b c1 c2 hi hj => h.inj i j b c1 c2 (hsome i hi) (hsome j hj), fun i hi => ?_, h.up, fun i b c hi hb => h.own i b c (hsome i hi) hb, h.gl⟩, hext, hrv⟩
  · unfold pubS at hi
    simp only at hi
    split at hi
    · rename_i o2 h2
      cases hi
      obtain ⟨o, k1, k2, k3, k4, k5⟩ := hl i oi h2
      rcases h.obs i o k1 with g | ⟨b2, c2, cur2, g1, g2, g3, g4, g5, g6, g7⟩
      · refine .inl ⟨g.1, ?_⟩
        have := k5.1
        rw [g.2] at this
        exact List.length_eq_zero_iff.1 this.symm
      · refine .inr ⟨b2, c2, cur2, g1, g2, by rw [← k3]; exact g3, by rw [← k4]; exact g4, g5, by rw [← k5.1]; exact g6, fun j d hj => ?_⟩
        have hjl : j < o.cells.length := by rw [k5.1]; exact (List.getElem?_eq_some_iff.1 hj).1
        obtain ⟨x, hx, hr⟩ := g7 j _ (List.getElem?_eq_getElem hjl)
        exact ⟨x, hx, hrv (k5.2 j _ _ (List.getElem?_eq_getElem hjl) hj) hr⟩
    · obtain ⟨k1, _⟩ := hide_ob hi
      rcases h.obs i oi k1 with g | ⟨b2, c2, cur2, g1, g2, g3, g4, g5, g6, g7⟩
      · exact .inl g
      · exact .inr ⟨b2, c2, cur2, g1, g2, g3, g4, g5, g6, fun j d hj => by
          obtain ⟨x, hx, hr⟩ := g7 j d hj
          exact ⟨x, hx, RV.ext h (Nat.le_refl _) (hext _) hr⟩⟩
  · have := h.nx i hi
    refine ⟨this.1, ?_⟩
    cases hj : (pubS s T l).ob i with
    | none => rfl
    | some o => have := (hob i o hj).1; rw [(h.nx i hi).2] at this; cases this
theorem SCall.pub [Inhabited GlobS] {P : Program} {f : FuncId} {args args1 : List DV} {s : Sto} {K : DV → Sto → Prop} (T : List Nat) (l : List (Nat × DObj))
    (ho : allP (fun p => match s.ob p.1 with
      | some o => T.contains p.1 = false ∧ o.elem = p.2.elem ∧ o.sz = p.2.sz ∧ DWl (fun i => some i) s (Gv s T) o.cells p.2.cells
      | none => False) l)
    (ha : DWl (fun i => some i) s (Gv s T) args args1) (h : SCall P f args1 (pubS s T l) K) : SCall P f args s K := fun w0 F0 β w vals hs hx => by
  obtain ⟨g1, g2, g3⟩ := hs.pub T l ho
  have hx' : Pw w (Fr w0 F0 (pubS s T l) β) β args1 vals := by
    refine ⟨by rw [← ha.1]; exact hx.1, fun i d' x h1 h2 => ?_⟩
    have hi : i < args.length := by rw [ha.1]; exact (List.getElem?_eq_some_iff.1 h1).1
    exact g3 (ha.2 i _ _ (List.getElem?_eq_getElem hi) h1) (hx.2 i _ _ (List.getElem?_eq_getElem hi) h2)
  exact (h w0 F0 β w vals g1 hx').mono fun e w' ⟨v, r, s2, β2, he, hk, k1, k2, k3, k4⟩ => ⟨v, r, s2, β2, he, hk, k1, (g2 _).trans k2, k3, k4⟩
end Go.Dl


