/-
  The data-level logic, part 27: laws under a bound ('upto'), over variables that the program's text has laid.
-/
import Derived.Test.YtagfmppjlfhmeaaGreatDoorDp23
import Derived.JoinedCond

namespace Go.Dl
open Go Go.RowKit Go.ChangeShapes
theorem witness_upto {H : Type} {enc : TypeId × Value → H} {C : Checked} {os : Os} {f : FuncId} {fn : Func} {s : OpenSpec} {k : (H : Type) → List (DataW H) → Bool} (hk : s.cond = some k) {conds : List PathCond} {apart : Bool} {X : World → Array Value → Prop} (modest : Bool) (w0 : World) (args : Array Value) (fuel : Nat)
    (hos : w0.os = os)
    (hsh : (w0.forCall (fun _ _ => 0) ⟨#[], args, []⟩).Shaped C.prog)
    (hok : Input.okWideB C.prog (w0.forCall (fun _ _ => 0) ⟨#[], args, []⟩) f ⟨#[], args, []⟩ = true)
    {x : List (DataW H) × List (DataW H) × List MemPlace} (hx : DataW.whole enc C.prog (w0.forCall (fun _ _ => 0) ⟨#[], args, []⟩).memory fn.params.toList s.vars apart args.toList fuel = some x)
    (hconds : conds.all (PathCond.test C.prog ⟨fn.params.toList, x.1, s.bare.plain.varTypes C.prog, x.2.1⟩) = true) (hkk : k H (x.1 ++ x.2.1) = true)
    (hsz : s.bare.sizedB enc C.prog fn apart (w0.forCall (fun _ _ => 0) ⟨#[], args, []⟩).memory args fuel = true)
    (hX : X (w0.forCall (fun _ _ => 0) ⟨#[], args, []⟩).memory args) :
    ∃ (w : World) (tape : Tape) (i : Input), w.os = os ∧ (w.forCall tape i).Shaped C.prog ∧ i.vars = [] ∧ Input.okWide C.prog (w.forCall tape i) .any w.heap.size f i ∧
      ((s.pre enc C.prog fn conds apart (w.forCall tape i).memory i.args ∧ X (w.forCall tape i).memory i.args) ∧ sizedMet enc C.prog fn s apart (w.forCall tape i).memory i.args) ∧ ({ modest := modest } : Assume).holds C.prog (lone (Frame.enter C.prog f i.args .normal) [] (w.forCall tape i)) :=
  ⟨w0, fun _ _ => 0, ⟨#[], args, []⟩, hos, hsh, (Input.okWide_of_okWideB (base := 0) hok).1, (Input.okWide_of_okWideB hok).2,
    ⟨⟨(OpenSpec.pre_some hk conds apart _ _).2 ⟨x.1, x.2.1, x.2.2, DataW.Whole_of_whole hx, hconds, hkk⟩, hX⟩, sizedMet_of_sizedB hsz⟩, by
    simp only [Assume.holds]
    exact ⟨by simp, by simp, fun _ => Modest.zero, by simp, by simp⟩⟩
theorem law_lift_upto [Inhabited GlobS] {a : Assume} {C : Checked} {os : Os} {f : FuncId} {fn : Func} {s : ChangeSpec} {o : OpenSpec} {k : (H : Type) → List (DataW H) → Bool} {laid : List (String × DataW Unit)} {H : Type} {enc : TypeId × Value → H} (F : Stop.Interp) (tb : TypeId)
    (ho : o = { OpenSpec.ofChange s with cond := some k })
    (own : ownKnob C.prog.godebug = none) (started : os.Started) (noInit : C.prog.inits.idxOf? f = none) (hfn : C.prog.funcs[f]? = some fn)
    (witness : ∃ (w : World) (tape : Tape) (i : Input), w.os = os ∧ (w.forCall tape i).Shaped C.prog ∧ i.vars = [] ∧ Input.okWide C.prog (w.forCall tape i) .any w.heap.size f i ∧
      ((o.pre enc C.prog fn [] false (w.forCall tape i).memory i.args ∧ laidMetH C.prog laid (w.forCall tape i).memory) ∧ sizedMet enc C.prog fn o false (w.forCall tape i).memory i.args) ∧ a.holds C.prog (lone (Frame.enter C.prog f i.args .normal) [] (w.forCall tape i)))
    (hl : laidOutB C.prog = true) (hp : (fn.params.toList.all (plainT C.prog 20)) = true) (hr : (fn.params.toList.all fun t => C.prog.readableRec t && decide (t < C.prog.types.size)) = true)
    (hres : fn.resultTypes = #[tb]) (hb : C.prog.underlying tb = some .bool) (hv : s.vars = []) (hsp : ∀ (ds : List (DataW H)), ds.length = fn.params.size → s.fn H ds = { results := [.lit (.bool true)], args := ds })
    (hgl : ∀ W : World, laidMetH C.prog laid W → W.ShapedOpen C.prog → Gok W)
    (law : ∀ (W : World) (base : Nat) (vs : List Value) (ds : List (DataW H)) (ps : List MemPlace) (dargs : List DV), (∀ (j : Nat) t v, fn.params.toList[j]? = some t → vs[j]? = some v → Value.okWide C.prog W .any base t v) →
      DataW.TrodAll enc C.prog W 0 (fun _ => true) true fn.params.toList vs ds ps → k H ds = true → Pw W (fun _ => True) (fun _ => none) dargs vs → ShpAll C.prog fn.params.toList dargs → DPure C.prog f dargs (.v (.bool true))) :
    ReturnsInHanded a C os f .any (fun w args => (o.pre enc C.prog fn [] false w args ∧ laidMetH C.prog laid w) ∧ sizedMet enc C.prog fn o false w args) ((o.at F).post enc C.prog fn false true false false) := by
  have hk : o.cond = some k := by rw [ho]
  have hov : o.vars = [] := by rw [ho]; exact hv
  have hpost : (o.at F).post enc C.prog fn false true false false = s.post enc C.prog fn false true false false := by rw [ho]; rfl
  rw [hpost]
  refine returnsInHanded_of_calls own started noInit witness ?_
  intro w tape i _ hsh _ hok hpre hholds
  obtain ⟨_, _, _, fn', hfn', _, _, _, _, hval⟩ := hok
  have e : fn' = fn := Option.some.inj (hfn'.symm.trans hfn)
  subst e
  obtain ⟨⟨hp0, hL0⟩, hz⟩ := hpre
  obtain ⟨ds, gs, before, hw, _, hkk⟩ := (OpenSpec.pre_some hk [] false _ _).1 hp0
  have hwo := DataW.Whole.of_heap (w' := w.forCall tape i) (by rfl) hw
  have hsz := hz.weights hw
  have hL : laidMetH C.prog laid (w.forCall tape i) := hL0.of_heap (by rfl)
  generalize hWe : w.forCall tape i = W at hwo hL hsh hval ⊢
  generalize hba : w.heap.size = base at hval
  generalize hae : i.args = args at hwo hval ⊢
  rw [hov] at hwo
  have hW' : DataW.Whole enc C.prog fn'.params.toList s.vars false W args.toList ds gs before := by rw [hv]; exact hwo
  refine Calls.mono (R := fun e W' => ∃ v, e = .returned v ∧ s.post enc C.prog fn' false true false false W args v W') ?_ fun e W' ⟨v, he, hp⟩ => ?_
  · have hWo := hwo
    obtain ⟨p, q, hA, hV, rfl, hfz, hnd⟩ := hWo
    obtain ⟨rfl, rfl⟩ := trodVars_none hV
    have hvt : o.bare.plain.varTypes C.prog = [] := by rw [ho]; simp [DataSpec.varTypes, ChangeSpec.plain, OpenSpec.bare, OpenSpec.ofChange, hv]
    rw [hvt, List.append_nil, List.append_nil] at hsz
    rw [List.append_nil] at hkk
    simp only [List.all_eq_true, decide_eq_true_eq] at hsz
    have hval' : ∀ (j : Nat) t v, fn'.params.toList[j]? = some t → args.toList[j]? = some v → Value.okWide C.prog W .any base t v := fun j t v h1 h2 => hval j t v (by simpa using h1) (by simpa using h2)
    obtain ⟨dvs, k1, k2⟩ := shpAll_of fn'.params.toList args.toList ds p hp hval' hA hsz
    have := law W base args.toList ds p dvs hval' hA hkk k2 k1 W (fun _ => True) args.toList (hgl W hL hsh) (fun _ _ => trivial) k2
    simp only [Array.toArray_toList] at this
    refine this.mono fun e W' ⟨v, r, s', β', he, hr', hs, hrv⟩ => ?_
    subst he; subst hr'
    have hv' := rv_v hrv
    subst hv'
    have bel := hs.below
    have hlen := trodAll_len _ _ _ _ hA
    refine ⟨_, rfl, _, _, _, [], p, [], hW', ?_, ?_, ?_, bel.frame _, fun h => by cases h⟩
    · rw [hsp _ (by simpa using hlen), hres]
      exact trodAll_mk1 (shut_bool hb _)
    · rw [hsp _ (by simpa using hlen)]
      have := trodAll_below hl bel _ _ _ _ hr hA
      simpa using this
    · rw [hsp _ (by simpa using hlen), hv]
      rfl
  · subst he
    rw [← hWe, ← hae] at *
    exact ChangeSpec.post_blind hp
end Go.Dl

namespace Go.Dl
open Go Go.RowKit
end Go.Dl
namespace Go.Dl
open Go Go.RowKit
theorem tf_no {P : Prop} (h : true = false) : P := nomatch h
theorem ft_no {P : Prop} (h : false = true) : P := nomatch h
def Sto.only (s : Sto) (T : List Nat) : Sto := ⟨fun i => if T.contains i = true then s.ob i else none, s.nx⟩
def joinT (s : Sto) (T : List Nat) (s1 : Sto) : Sto := ⟨fun i => match s1.ob i with | some o => some o | none => if T.contains i = true then none else s.ob i, s1.nx⟩
def TSem [Inhabited GlobS] (P : Program) (f : FuncId) (args : List DV) (s : Sto) (T : List Nat) (K : DV → Sto → Prop) : Prop :=
  ∀ (w0 : World) (F0 : Nat → Prop) (β : Beta) (w : World) (vals : List Value), SRel w0 F0 s β w → Pw w (Fr w0 F0 s β) β args vals →
    Calls P f vals.toArray w fun e w' => ∃ v r s' β', e = .returned v ∧ K r s' ∧ SRel w0 F0 s' β' w' ∧ Ext s.nx w0 nX s β w s' β' w' ∧ s.nx ≤ s'.nx ∧ RV w' (Fr w0 F0 s' β') β' r v ∧
      (∀ b, b < w.heap.size → (∀ i c, T.contains i = true → (s.ob i).isSome = true → β i ≠ some (some (b, c))) → w'.heap[b]? = w.heap[b]?) ∧
      (∀ i b c, (s'.ob i).isSome = true → β' i = some (some (b, c)) → b < w.heap.size → ∃ j c', (s.ob j).isSome = true ∧ β j = some (some (b, c')) ∧ (j = i ∨ T.contains j = true))
theorem only_ob {s : Sto} {T : List Nat} {i : Nat} {o : DObj} (h : (s.only T).ob i = some o) : T.contains i = true ∧ s.ob i = some o := by
  unfold Sto.only at h
  simp only at h
  split at h
  · rename_i hc; exact ⟨hc, h⟩
  · cases h
theorem join_ob {s : Sto} {T : List Nat} {s1 : Sto} {i : Nat} {o : DObj} (h : (joinT s T s1).ob i = some o) : s1.ob i = some o ∨ (s1.ob i = none ∧ T.contains i = false ∧ s.ob i = some o) := by
  unfold joinT at h
  simp only at h
  split at h
  · rename_i o' ho'; cases h; exact .inl ho'
  · rename_i hn
    split at h
    · cases h
    · rename_i hc; exact .inr ⟨hn, by simpa using hc, h⟩
theorem TSem.only [Inhabited GlobS] {P : Program} {f : FuncId} {args : List DV} {s : Sto} {T : List Nat} {K : DV → Sto → Prop} (h : SCall P f args (s.only T) fun r s1 => K r (joinT s T s1)) : TSem P f args s T K := by
  intro w0 F0 β w vals hs hx
  let F1 : Nat → Prop := fun b => F0 b ∧ ∀ i c, T.contains i = false → (s.ob i).isSome = true → β i ≠ some (some (b, c))
  have howned : ∀ i o b c, s.ob i = some o → β i = some (some (b, c)) → b < w.heap.size ∧ w0.heap.size ≤ b := fun i o b c ho hb => by
    rcases hs.obs i o ho with g | ⟨b', c', cur, e1, e2, e3, _⟩
    · rw [g.1] at hb; cases hb
    · rw [e1] at hb; cases hb
      exact ⟨(Array.getElem?_eq_some_iff.1 e3).1, e2⟩
  have hun : ∀ b, Un w0 s β b → ∀ i c, (s.ob i).isSome = true → β i ≠ some (some (b, c)) := fun b hU i c hi hb => by
    obtain ⟨o, ho⟩ := Option.isSome_iff_exists.1 hi
    rcases hU with hlt | ⟨_, hu⟩
    · have := (howned i o b c ho hb).2; omega
    · exact hu i c hi hb
  have honly : ∀ i, ((s.only T).ob i).isSome = true → (s.ob i).isSome = true := fun i hi => by
    obtain ⟨o, ho⟩ := Option.isSome_iff_exists.1 hi
    rw [(only_ob ho).2]; rfl
  have hUo : ∀ b, Un w0 s β b → Un w0 (s.only T) β b := fun b hU => by
    rcases hU with hlt | ⟨h1, hu⟩
    · exact .inl hlt
    · exact .inr ⟨h1, fun i c hi => hu i c (honly i hi)⟩
  have hFr : ∀ b, Fr w0 F0 s β b → Fr w0 F1 (s.only T) β b := fun b hF => ⟨⟨hF.1, fun i c _ hi => hun b hF.2 i c hi⟩, hUo b hF.2⟩
  have hlt_s : ∀ i o, s.ob i = some o → i < s.nx := fun i o ho' => by
    rcases Nat.lt_or_ge i s.nx with h | h
    · exact h
    · have := (hs.nx i h).2; rw [ho'] at this; cases this
  have hs1 : SRel w0 F1 (s.only T) β w := by
    refine ⟨hs.below, fun i o ho => ?_, fun i j b c c' hi hj => hs.inj i j b c c' (honly i hi) (honly j hj), fun i hi => ⟨(hs.nx i hi).1, ?_⟩, fun b hb => ⟨hs.up b hb, fun i c _ hi hbi => ?_⟩, fun i b c hi hb => ⟨hs.own i b c (honly i hi) hb, fun j c' hj hj2 hbj => ?_⟩, hs.gl⟩
    · rcases hs.obs i o (only_ob ho).2 with g | ⟨b', c', cur, q1, q2, q3, q4, q5, q6, q7⟩
      · exact .inl g
      · refine .inr ⟨b', c', cur, q1, q2, q3, q4, q5, q6, fun j d hjd => ?_⟩
        obtain ⟨x, hx', hr'⟩ := q7 j d hjd
        exact ⟨x, hx', hr'.mono (fun _ _ h => h) fun b _ hF => ⟨hFr b hF, rfl⟩⟩
    · cases ho : (s.only T).ob i with
      | none => rfl
      | some o =>
        have h2 := (only_ob ho).2
        have hi : s.nx ≤ i := hi
        have := (hs.nx i hi).2
        rw [h2] at this; cases this
    · obtain ⟨o, ho⟩ := Option.isSome_iff_exists.1 hi
      have := (howned i o b c ho hbi).1; omega
    · obtain ⟨o, ho⟩ := Option.isSome_iff_exists.1 hi
      have e := hs.inj i j b c c' (honly i hi) hj2 hb hbj
      subst e
      rw [(only_ob ho).1] at hj; cases hj
  have hx1 : Pw w (Fr w0 F1 (s.only T) β) β args vals := ⟨hx.1, fun i d y h1 h2 => (hx.2 i d y h1 h2).mono (fun _ _ h => h) fun b _ hF => ⟨hFr b hF, rfl⟩⟩
  refine (h w0 F1 β w vals hs1 hx1).mono fun e w' ⟨v, r, s1, β1, he, hK, k1, k2, k3, k4⟩ => ?_
  have k3 : s.nx ≤ s1.nx := k3
  have hβ1 : ∀ i o, s.ob i = some o → β1 i = β i := fun i o ho => by
    have hp : ∃ p, β i = some p := by
      rcases hs.obs i o ho with g | ⟨b, c, _, g, _⟩
      · exact ⟨_, g.1⟩
      · exact ⟨_, g⟩
    obtain ⟨p, hp⟩ := hp
    rw [k2.grow i (hlt_s i o ho) p hp, hp]
  have oth : ∀ i o b c, T.contains i = false → s.ob i = some o → β i = some (some (b, c)) → Un w0 (s.only T) β b := fun i o b c hi ho hb =>
    .inr ⟨(howned i o b c ho hb).2, fun j c2 hj hbj => by
      obtain ⟨oj, hoj⟩ := Option.isSome_iff_exists.1 hj
      have e := hs.inj j i b c2 c (honly j hj) (by rw [ho]; rfl) hbj hb
      subst e
      rw [(only_ob hoj).1] at hi; cases hi⟩
  have keep : ∀ i o b c, T.contains i = false → s.ob i = some o → β i = some (some (b, c)) → Un w0 s1 β1 b ∧ w'.heap[b]? = w.heap[b]? := fun i o b c hi ho hb =>
    k2.fr b (howned i o b c ho hb).1 (fun h => h) (oth i o b c hi ho hb)
  have hUU : ∀ b, Un w0 s1 β1 b → (∀ i c, T.contains i = false → (s.ob i).isSome = true → β i ≠ some (some (b, c))) → Un w0 (joinT s T s1) β1 b := fun b hU hno => by
    rcases hU with hlt | ⟨hge, hu⟩
    · exact .inl hlt
    · refine .inr ⟨hge, fun i c hi hb => ?_⟩
      obtain ⟨o, ho⟩ := Option.isSome_iff_exists.1 hi
      rcases join_ob ho with hl | ⟨_, hni, hso⟩
      · exact hu i c (by rw [hl]; rfl) hb
      · rw [hβ1 i o hso] at hb
        exact hno i c hni (by rw [hso]; rfl) hb
  have hFF : ∀ b, Fr w0 F1 s1 β1 b → Fr w0 F0 (joinT s T s1) β1 b := fun b hF => ⟨hF.1.1, hUU b hF.2 hF.1.2⟩
  have hext : Ext s.nx w0 nX s β w (joinT s T s1) β1 w' := ⟨fun i hi p hp => k2.grow i hi p hp, k2.size, fun b hb _ hU => by
    obtain ⟨q1, q2⟩ := k2.fr b hb (fun h => h) (hUo b hU)
    exact ⟨hUU b q1 fun i c _ hi => hun b hU i c hi, q2⟩⟩
  have cross : ∀ i o k ok b c c', T.contains i = false → s.ob i = some o → β i = some (some (b, c)) → s1.ob k = some ok → β1 k = some (some (b, c')) → False := fun i o k ok b c c' hni hso hb hk hbk => by
    have hU := (keep i o b c hni hso hb).1
    rcases hU with hlt | ⟨_, hu⟩
    · have := (howned i o b c hso hb).2; omega
    · exact hu k c' (by rw [hk]; rfl) hbk
  refine ⟨v, r, joinT s T s1, β1, he, hK, ⟨k1.below, fun i o hj => ?_, fun i j b c c' hi hj hbi hbj => ?_, fun i hi => ⟨(k1.nx i hi).1, ?_⟩, fun b hb => (k1.up b hb).1, fun i b c hi hb => ?_, k1.gl⟩, hext, k3, k4.mono (fun _ _ h => h) fun b _ hF => ⟨hFF b hF, rfl⟩, fun b hb hno => ?_, fun i b c hi hb hlt => ?_⟩
  · rcases join_ob hj with hl | ⟨_, hni, hso⟩
    · rcases k1.obs i o hl with g | ⟨b', c', cur, q1, q2, q3, q4, q5, q6, q7⟩
      · exact .inl g
      · refine .inr ⟨b', c', cur, q1, q2, q3, q4, q5, q6, fun j d hjd => ?_⟩
        obtain ⟨x, hx', hr'⟩ := q7 j d hjd
        exact ⟨x, hx', hr'.mono (fun _ _ h => h) fun b _ hF => ⟨hFF b hF, rfl⟩⟩
    · rcases hs.obs i o hso with g | ⟨b', c', cur, q1, q2, q3, q4, q5, q6, q7⟩
      · exact .inl ⟨by rw [hβ1 i o hso]; exact g.1, g.2⟩
      · refine .inr ⟨b', c', cur, by rw [hβ1 i o hso]; exact q1, q2, by rw [(keep i o b' c' hni hso q1).2]; exact q3, q4, q5, q6, fun j d hjd => ?_⟩
        obtain ⟨x, hx', hr'⟩ := q7 j d hjd
        exact ⟨x, hx', RV.ext hs (Nat.le_refl _) hext hr'⟩
  · obtain ⟨oi, hoi⟩ := Option.isSome_iff_exists.1 hi
    obtain ⟨oj, hoj⟩ := Option.isSome_iff_exists.1 hj
    rcases join_ob hoi with hl | ⟨_, hni, hso⟩
    · rcases join_ob hoj with hl' | ⟨_, hni', hso'⟩
      · exact k1.inj i j b c c' (by rw [hl]; rfl) (by rw [hl']; rfl) hbi hbj
      · rw [hβ1 j oj hso'] at hbj
        exact (cross j oj i oi b c' c hni' hso' hbj hl hbi).elim
    · rw [hβ1 i oi hso] at hbi
      rcases join_ob hoj with hl' | ⟨_, hni', hso'⟩
      · exact (cross i oi j oj b c c' hni hso hbi hl' hbj).elim
      · rw [hβ1 j oj hso'] at hbj
        exact hs.inj i j b c c' (by rw [hso]; rfl) (by rw [hso']; rfl) hbi hbj
  · cases hj : (joinT s T s1).ob i with
    | none => rfl
    | some o =>
      have hi : s1.nx ≤ i := hi
      rcases join_ob hj with hl | ⟨_, _, hso⟩
      · have := (k1.nx i hi).2; rw [hl] at this; cases this
      · have := hlt_s i o hso; omega
  · obtain ⟨o, hj⟩ := Option.isSome_iff_exists.1 hi
    rcases join_ob hj with hl | ⟨_, hni, hso⟩
    · exact (k1.own i b c (by rw [hl]; rfl) hb).1
    · rw [hβ1 i o hso] at hb
      exact hs.own i b c (by rw [hso]; rfl) hb
  · by_cases hU : Un w0 (s.only T) β b
    · exact (k2.fr b hb (fun h => h) hU).2
    · exfalso
      refine hU ?_
      by_cases hlt : b < w0.heap.size
      · exact .inl hlt
      · refine .inr ⟨by omega, fun i c hi hbi => ?_⟩
        obtain ⟨o, ho⟩ := Option.isSome_iff_exists.1 hi
        exact hno i c (only_ob ho).1 (honly i hi) hbi
  · obtain ⟨o, hj⟩ := Option.isSome_iff_exists.1 hi
    rcases join_ob hj with hl | ⟨_, hni, hso⟩
    · by_cases hU : Un w0 (s.only T) β b
      · exfalso
        have h1 := (k2.fr b hlt (fun h => h) hU).1
        rcases k1.obs i o hl with g | ⟨b', c', cur, q1, q2, _⟩
        · rw [g.1] at hb; cases hb
        · rw [q1] at hb
          simp only [Option.some.injEq, Prod.mk.injEq] at hb
          obtain ⟨rfl, rfl⟩ := hb
          rcases h1 with h1 | ⟨_, h1⟩
          · omega
          · exact h1 i _ (by rw [hl]; rfl) q1
      · by_cases hw : b < w0.heap.size
        · exact absurd (.inl hw) hU
        · have : ¬ ∀ j c, ((s.only T).ob j).isSome = true → β j ≠ some (some (b, c)) := fun hn => hU (.inr ⟨by omega, hn⟩)
          simp only [Classical.not_forall, ne_eq, Classical.not_not] at this
          obtain ⟨j, c', hj1, hj2⟩ := this
          obtain ⟨oj, hoj⟩ := Option.isSome_iff_exists.1 hj1
          exact ⟨j, c', honly j hj1, hj2, .inr (only_ob hoj).1⟩
    · rw [hβ1 i o hso] at hb
      exact ⟨i, c, by rw [hso]; rfl, hb, .inl rfl⟩
def ECall [Inhabited GlobS] (P : Program) (f : FuncId) (args : List DV) (s : Sto) (T : List Nat) (g : Bool) (K : DV → Sto → Prop) (K0 : DV → Prop) : Prop := (g = true → TSem P f args s T K) ∧ (g = false → ∃ r0, K0 r0)
theorem ECall.only [Inhabited GlobS] {P : Program} {f : FuncId} {args : List DV} {s : Sto} {T : List Nat} {g : Bool} {K : DV → Sto → Prop} {K0 : DV → Prop} (h : g = true → SCall P f args (s.only T) fun r s1 => K r (joinT s T s1)) (h0 : g = false → ∃ r0, K0 r0) : ECall P f args s T g K K0 := ⟨fun hg => TSem.only (h hg), h0⟩
theorem ECall.alt [Inhabited GlobS] {P : Program} {f : FuncId} {args : List DV} {s : Sto} {T : List Nat} {g : Bool} {K : DV → Sto → Prop} {K0 : DV → Prop} (r0 : DV) (h : g = true → SCall P f args (s.only T) fun r s1 => K r (joinT s T s1)) (h0 : g = false → K0 r0) : ECall P f args s T g K K0 := ⟨fun hg => TSem.only (h hg), fun hg => ⟨r0, h0 hg⟩⟩
theorem ECall.mark [Inhabited GlobS] {P : Program} {f : FuncId} {args : List DV} {s : Sto} {T : List Nat} {g : Bool} {K : DV → Sto → Prop} {K0 : DV → Prop} (h : ECall P f args s T g K K0) : ECall P f args s T g K K0 := h
noncomputable def mstepC [Inhabited GlobS] (P : Program) (ops : Array Oper) (T : List Nat) (i : Nat) (st : St) (tv : Nat → DV) (D : St → (Nat → DV) → Prop) : Prop :=
  match ops[i]? with
  | none => False
  | some o => dgd ops o st.tm fun g => (match o.op with
          | .call c => (match c.callee with
            | .value f => evg g (ev st.tm f) fun df => (match df with
              | .clo (.func fid) first cap => (g = true → entersB P fid = true) ∧ evgs g (c.args.toList.map (ev st.tm)) fun das => ECall P fid (first ++ das ++ cap) st.s T g (fun r s' => D ((st.setS s').put o.dst r) (upo tv o.dst (visD r))) (fun r0 => D (st.put o.dst (gw o g r0)) (upo tv o.dst (visD (gw o g r0))))
              | _ => False)
            | _ => False)
          | _ => False)
theorem mstep_call [Inhabited GlobS] {P : Program} {ops : Array Oper} {T : List Nat} {G : Org} {st0 : St} {β0 : Beta} {ws : World} {R : Exit → Act → World → Prop}
    (hd : ∀ o ∈ ops.toList, (o.dst.all fun t => decide (t < G.N)) = true) {D : St → (Nat → DV) → Prop} {n i : Nat} {listed : Array Bool} {st : St} {tv : Nat → DV} {β : Beta} {a : Act} {w : World}
    (hr : RM G st0 β0 ws T st tv β a w)
    (IH : ∀ {st : St} {tv : Nat → DV} {β : Beta} {a : Act} {w : World}, D st tv → RM G st0 β0 ws T st tv β a w → wpAnyH P .any ops (Plain R) (Kp (Fr G.w0 G.F0 st0.s β0) (st0.s.hide T) β0 ws) n (listed.setIfInBounds i true) a w)
    (h : mstepC P ops T i st tv D) :
    wpOp P ops (Plain R) i (fun a' w' => Kp (Fr G.w0 G.F0 st0.s β0) (st0.s.hide T) β0 ws w' ∧ wpAnyH P .any ops (Plain R) (Kp (Fr G.w0 G.F0 st0.s β0) (st0.s.hide T) β0 ws) n (listed.setIfInBounds i true) a' w') a w := by
  unfold mstepC at h
  split at h
  · exact h.elim
  rename_i o hoi
  have hdo := hd o (by simpa using Array.mem_of_getElem? hoi)
  have hupo : ∀ (v : Value) (d : DV), RV ws (Fr G.w0 G.F0 st0.s β0) β0 d v → ∀ t, RV ws (Fr G.w0 G.F0 st0.s β0) β0 (upo tv o.dst d t) ((a.put o.dst v).tmps.getD t undef) := fun v d hv t => by
    cases hdst : o.dst with
    | none => exact hr.vis t
    | some t0 =>
      have hlt : t0 < a.tmps.size := by rw [hr.rel.size]; rw [hdst] at hdo; simpa using hdo
      by_cases e : t = t0
      · subst e
        simp only [upo, upd_same, Act.put]
        rw [Array.getD_eq_getD_getElem?, Array.getElem?_setIfInBounds_self_of_lt hlt]
        exact hv
      · simp only [upo, upd_ne _ _ _ e, Act.put]
        rw [Array.getD_eq_getD_getElem?, Array.getElem?_setIfInBounds_ne (fun h => e h.symm), ← Array.getD_eq_getD_getElem?]
        exact hr.vis t
  obtain ⟨g, h, hg0, hg⟩ := dgd_sound h
  have hg := hg _ _ _ a hr.rel.tm
  unfold wpOp
  simp only [hoi]
  rw [hg]
  split at h
  · rename_i c hop
    split at h
    · rename_i x hcal
      obtain ⟨df, h, hdf⟩ := evg_sound _ h
      split at h
      · rename_i fid first cap
        obtain ⟨hent, h⟩ := h
        obtain ⟨das, h, hdas⟩ := evgs_sound _ h
        obtain ⟨hT, h0⟩ := h
        cases g with
        | true =>
          rw [if_pos rfl]
          obtain ⟨xs, ys, he, hl1, hl2, hp1, hp2⟩ := rv_clo (hdf rfl _ _ _ _ (hr.rel.ev x))
          have hargs := hdas rfl _ _ _ _ (pw_ev hr.rel.ev c.args.toList)
          have hpw : Pw w (Fr G.w0 G.F0 st.s β) β (first ++ das ++ cap) (xs ++ c.args.toList.map a.eval ++ ys) := pw_append (pw_append ⟨hl1, hp1⟩ hargs) ⟨hl2, hp2⟩
          refine .inl ?_
          simp only [Oper.wp, run_call (hent rfl) hop hcal he, Oper.upon]
          refine (hT rfl _ _ _ _ _ hr.rel.srel hpw).mono fun e' w' ⟨v, r, s', β', he', hK, k1, k2, k3, k4, k5, k6⟩ => ?_
          subst he'
          have hwsz : ws.heap.size ≤ w.heap.size := hr.ext.size
          have hno : ∀ b, b < ws.heap.size → (Fr G.w0 G.F0 st0.s β0 b ∨ ∃ j o c', (st0.s.hide T).ob j = some o ∧ β0 j = some (some (b, c'))) → ∀ τ c, T.contains τ = true → (st.s.ob τ).isSome = true → β τ ≠ some (some (b, c)) := fun b hb hv τ c hτ hτ2 hβ => by
            have := hr.tgt τ b c hτ2 hβ hb hv
            rw [this] at hτ; cases hτ
          have hkeep : Kp (Fr G.w0 G.F0 st0.s β0) (st0.s.hide T) β0 ws w' := fun b hb hv => by
            rw [k5 b (by omega) (hno b hb hv)]
            exact hr.keep b hb hv
          have hS : ∀ d', ((st.setS s').put o.dst d').s = s' := fun d' => by unfold St.put St.setS; split <;> rfl
          have hrm : RM G st0 β0 ws T ((st.setS s').put o.dst r) (upo tv o.dst (visD r)) β' (a.put o.dst v) w' := by
            refine ⟨hr.rel.step k1 k2 k3 _ hdo _ _ k4, hupo v _ (rv_visD k4), ?_, ?_, hkeep, ?_⟩
            · rw [hS]; exact hr.ext.trans (k2.mono hr.mono)
            · rw [hS]; exact Nat.le_trans hr.mono k3
            · rw [hS]
              intro i b c hi hb hlt hv
              obtain ⟨j, c', j1, j2, j3⟩ := k6 i b c hi hb (by omega)
              rcases j3 with rfl | j3
              · exact hr.tgt j b c' j1 j2 hlt hv
              · exact absurd j2 (hno b hlt hv j c' j3 j1)
          exact ⟨hkeep, IH hK hrm⟩
        | false =>
          rw [if_neg (by simp)]
          obtain ⟨r0, h0⟩ := h0 rfl
          have hS : (st.put o.dst (gw o false r0)).s = st.s := by unfold St.put; split <;> rfl
          have hv : ∀ (w1 : World) (F1 : Nat → Prop) (β1 : Beta), RV w1 F1 β1 (gw o false r0) undef := fun w1 F1 β1 => by
            unfold gw
            split
            · rename_i e'; exact absurd (hg0 e') (by simp)
            · exact rv_gwhen (fun e' => by cases e') (fun _ => rfl)
          exact ⟨hr.keep, IH h0 ⟨hr.rel.put _ hdo _ _ (hv _ _ _), hupo _ _ (rv_visD (hv ws (Fr G.w0 G.F0 st0.s β0) β0)), by rw [hS]; exact hr.ext, by rw [hS]; exact hr.mono, hr.keep, by rw [hS]; exact hr.tgt⟩⟩
      · exact h.elim
    · exact h.elim
  · exact h.elim
inductive MX where
  | done
  | mv (q i : Nat) (t : MX)
  | two (p i : Nat) (ti : MX) (q j : Nat) (tj : MX)
def MX.depth : MX → Nat
  | .done => 0
  | .mv _ _ t => t.depth + 1
  | .two _ _ t _ _ _ => t.depth + 1
noncomputable def mstepX [Inhabited GlobS] (P : Program) (ops : Array Oper) (T : List Nat) (q i : Nat) (st : St) (tv : Nat → DV) (D : St → (Nat → DV) → Prop) : Prop :=
  match q with
  | 2 => mstepC P ops T i st tv D
  | _ => mstepF P ops T i st tv D
noncomputable def dtreeX [Inhabited GlobS] (P : Program) (ops : Array Oper) (sv : Sto) (T : List Nat) (t : MX) : St → (Nat → DV) → (St → Prop) → Prop :=
  MX.rec (motive := fun _ => St → (Nat → DV) → (St → Prop) → Prop) (fun st _ K => K st)
    (fun q i _ next st tv K => match q with
      | 0 => mstepT P ops sv i st tv fun st' tv' => next st' tv' K
      | q => mstepX P ops T q i st tv fun st' tv' => next st' tv' K)
    (fun p i _ q j _ nexti nextj st tv K => (mstepX P ops T p i st tv fun st' tv' => nexti st' tv' K) ∧ (mstepX P ops T q j st tv fun st' tv' => nextj st' tv' K)) t
def treeXB (ops : Array Oper) : MX → Nat → Array Bool → Bool
  | .done, n, listed => n == 0 && (Region.ready .any ops listed).isEmpty
  | .mv 0 i t, n, listed => Nat.ble 1 n && (Region.ready .any ops listed).contains i && Region.free .any ops listed i && treeXB ops t (n - 1) (listed.setIfInBounds i true)
  | .mv _ i t, n, listed => Nat.ble 1 n && decide (Region.ready .any ops listed = [i]) && treeXB ops t (n - 1) (listed.setIfInBounds i true)
  | .two _ i ti _ j tj, n, listed => Nat.ble 1 n && decide (Region.ready .any ops listed = [i, j]) && treeXB ops ti (n - 1) (listed.setIfInBounds i true) && treeXB ops tj (n - 1) (listed.setIfInBounds j true)
def regXB (P : Program) (N : Nat) (ops : Array Oper) (t : MX) : Bool :=
  P.follows .mixedOrders && Region.noSelect ops && ops.toList.all (fun o => noDefer o && o.dst.all fun t => decide (t < N)) && treeXB ops t ops.size (Array.replicate ops.size false)
theorem mstep_X [Inhabited GlobS] {P : Program} {ops : Array Oper} {T : List Nat} {G : Org} {st0 : St} {β0 : Beta} {ws : World} {R : Exit → Act → World → Prop} (hs0 : SRel G.w0 G.F0 st0.s β0 ws) (hsel : Region.noSelect ops = true)
    (hd : ∀ o ∈ ops.toList, (o.dst.all fun t => decide (t < G.N)) = true) {D : St → (Nat → DV) → Prop} {n q i : Nat} {listed : Array Bool} {st : St} {tv : Nat → DV} {β : Beta} {a : Act} {w : World}
    (hr : RM G st0 β0 ws T st tv β a w)
    (IH : ∀ {st : St} {tv : Nat → DV} {β : Beta} {a : Act} {w : World}, D st tv → RM G st0 β0 ws T st tv β a w → wpAnyH P .any ops (Plain R) (Kp (Fr G.w0 G.F0 st0.s β0) (st0.s.hide T) β0 ws) n (listed.setIfInBounds i true) a w)
    (h : mstepX P ops T q i st tv D) :
    wpOp P ops (Plain R) i (fun a' w' => Kp (Fr G.w0 G.F0 st0.s β0) (st0.s.hide T) β0 ws w' ∧ wpAnyH P .any ops (Plain R) (Kp (Fr G.w0 G.F0 st0.s β0) (st0.s.hide T) β0 ws) n (listed.setIfInBounds i true) a' w') a w := by
  unfold mstepX at h
  split at h
  · exact mstep_call hd hr IH h
  · unfold mstepF at h
    split at h
    · exact h.elim
    · rename_i o hoi
      exact mstep_false hs0 hsel hd (D := D) hoi hr IH h
theorem dtreeX_sound [Inhabited GlobS] {P : Program} {ops : Array Oper} {T : List Nat} {G : Org} {st0 : St} {β0 : Beta} {ws : World} {R : Exit → Act → World → Prop} (hs0 : SRel G.w0 G.F0 st0.s β0 ws) (hsel : Region.noSelect ops = true)
    (hd : ∀ o ∈ ops.toList, (o.dst.all fun t => decide (t < G.N)) = true) (t : MX) : ∀ {n : Nat} {listed : Array Bool} {st : St} {tv : Nat → DV} {K : St → Prop} {β : Beta} {a : Act} {w : World}, treeXB ops t n listed = true →
    dtreeX P ops (st0.s.hide T) T t st tv K → RM G st0 β0 ws T st tv β a w → (∀ st' β' a' w', K st' → Rel G st' β' a' w' → R .normal a' w') →
    wpAnyH P .any ops (Plain R) (Kp (Fr G.w0 G.F0 st0.s β0) (st0.s.hide T) β0 ws) n listed a w := by
  induction t with
  | done =>
    intro n listed st tv K β a w hm h hr hR
    simp only [treeXB, Bool.and_eq_true, List.isEmpty_iff] at hm
    exact wpAnyH_done hm.2 (plain_normal (hR _ _ _ _ h hr.rel)) _
  | mv q i t ih =>
    intro n listed st tv K β a w hm h hr hR
    match q, hm, h with
    | 0, hm, h =>
      simp only [treeXB, Bool.and_eq_true] at hm
      obtain ⟨⟨⟨m0, m1⟩, m2⟩, m3⟩ := hm
      obtain ⟨n, rfl⟩ : ∃ k, n = k + 1 := ⟨n - 1, by have := Nat.le_of_ble_eq_true m0; omega⟩
      replace h : mstepT P ops (st0.s.hide T) i st tv fun st' tv' => dtreeX P ops (st0.s.hide T) T t st' tv' K := h
      unfold mstepT at h
      split at h
      · exact h.elim
      rename_i o hoi
      exact mstep_true hs0 hsel hd (D := fun st' tv' => dtreeX P ops (st0.s.hide T) T t st' tv' K) m2 m1 hoi hr (fun h1 h2 => ih m3 h1 h2 hR) h
    | q + 1, hm, h =>
      simp only [treeXB, Bool.and_eq_true, decide_eq_true_eq] at hm
      obtain ⟨⟨m0, m1⟩, m3⟩ := hm
      obtain ⟨n, rfl⟩ : ∃ k, n = k + 1 := ⟨n - 1, by have := Nat.le_of_ble_eq_true m0; omega⟩
      replace h : mstepX P ops T (q + 1) i st tv fun st' tv' => dtreeX P ops (st0.s.hide T) T t st' tv' K := h
      refine wpAnyH_all m1 (by simp) fun j hj => ?_
      have e : i = j := by have : j = i := by simpa using hj
                           exact this.symm
      subst e
      exact mstep_X hs0 hsel hd (D := fun st' tv' => dtreeX P ops (st0.s.hide T) T t st' tv' K) hr (fun h1 h2 => ih m3 h1 h2 hR) h
  | two p i ti q j tj ihi ihj =>
    intro n listed st tv K β a w hm h hr hR
    simp only [treeXB, Bool.and_eq_true, decide_eq_true_eq] at hm
    obtain ⟨⟨⟨m0, m1⟩, m2⟩, m3⟩ := hm
    obtain ⟨n, rfl⟩ : ∃ k, n = k + 1 := ⟨n - 1, by have := Nat.le_of_ble_eq_true m0; omega⟩
    replace h : (mstepX P ops T p i st tv fun st' tv' => dtreeX P ops (st0.s.hide T) T ti st' tv' K) ∧ (mstepX P ops T q j st tv fun st' tv' => dtreeX P ops (st0.s.hide T) T tj st' tv' K) := h
    obtain ⟨h1, h2⟩ := h
    refine wpAnyH_all m1 (by simp) fun k hk => ?_
    simp only [List.mem_cons, List.not_mem_nil, or_false] at hk
    rcases hk with rfl | rfl
    · exact mstep_X hs0 hsel hd (D := fun st' tv' => dtreeX P ops (st0.s.hide T) T ti st' tv' K) hr (fun h1 h2 => ihi m2 h1 h2 hR) h1
    · exact mstep_X hs0 hsel hd (D := fun st' tv' => dtreeX P ops (st0.s.hide T) T tj st' tv' K) hr (fun h1 h2 => ihj m3 h1 h2 hR) h2
theorem Tri.treeX [Inhabited GlobS] {P : Program} {N : Nat} {Y : YT} {id : Nat} {ops : Array Oper} {st : St} {Q : DExit → St → Prop} (T : List Nat) (t : MX) (_ : t.depth = ops.size) (hk : regXB P N ops t = true)
    (h : dtreeX P ops (st.s.hide T) T t st st.tm (Q .normal)) : Tri P N Y (.region id ops true) st Q := fun G hN hY β a w R hr hR => by
  simp only [regXB, Bool.and_eq_true] at hk
  obtain ⟨⟨⟨hm, hsel⟩, hd⟩, hmv⟩ := hk
  have hnd : ∀ o ∈ ops.toList, noDefer o = true := fun o ho => (Bool.and_eq_true_iff.1 (List.all_eq_true.1 hd o ho)).1
  have hd : ∀ o ∈ ops.toList, (o.dst.all fun t => decide (t < G.N)) = true := fun o ho => by
    rw [hN]; exact (Bool.and_eq_true_iff.1 (List.all_eq_true.1 hd o ho)).2
  have hb : BelowD w.heap.size w w.drew := ⟨rfl, rfl, rfl, Nat.le_refl _, fun _ _ => rfl, fun _ => Nat.le_succ _⟩
  have hr' := hr.below hb
  refine wpIn_held hnd (S := Kp (Fr G.w0 G.F0 st.s β) (st.s.hide T) β w.drew) hm ?_
  exact dtreeX_sound hr'.srel hsel hd t hmv h (RM.start hr' T) fun st' β' a' w' hQ hr'' => hR .normal _ _ _ _ hQ hr''
end Go.Dl
namespace Go.Dl
open Go Go.RowKit
end Go.Dl
namespace Go.Dl
open Go Go.RowKit
end Go.Dl
