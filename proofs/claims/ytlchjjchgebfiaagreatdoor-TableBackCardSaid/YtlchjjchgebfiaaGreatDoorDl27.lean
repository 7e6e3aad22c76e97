/-
  The data-level logic, part 27: laws under a bound ('upto'), over variables that the program's text has laid.
-/
import Derived.Test.YtlchjjchgebfiaaGreatDoorDl26
import Derived.JoinedCond
namespace Go.Dl
open Go Go.RowKit Go.ChangeShapes

theorem witness_upto {H : Type} {enc : TypeId × Value → H} {C : Checked} {os : Os} {f : FuncId} {fn : Func} {s : OpenSpec} {k : (H : Type) → List (DataW H) → Bool} (hk : s.cond = some k) {conds : List PathCond} {apart : Bool} {X : World → Array Value → Prop} (modest : Bool) (w0 : World) (args : Array Value) (fuel : Nat)
    (hos : w0.os = os)
    (hsh : (w0.forCall (fun _ _ => 0) ⟨#[], args, []⟩).Shaped C.prog)
    (hok : Input.okWideB C.prog (w0.forCall (fun _ _ => 0) ⟨#[], args, []⟩) f ⟨#[], args, []⟩ = true)
    {x : List (DataW H) × List (DataW H) × List MemPlace} (hx : DataW.whole enc C.prog (w0.forCall (fun _ _ => 0) ⟨#[], args, []⟩).memory fn.params.toList s.vars apart args.toList fuel = some x)
    (hconds : conds.all (PathCond.test C.prog ⟨fn.params.toList, x.1, s.bare.plain.varTypes C.prog, x.2.1⟩) = true) (hkk : k H (x.1 ++ x.2.1) = true)
    (hsz : s.bare.sizedB enc C.prog fn apart (w0.forCall (fun _ _ => 0) ⟨#[], args, []⟩).memory args fuel = true)
    (hX : X (w0.forCall (fun _ _ => 0) ⟨#[], args, []⟩).memory args) :
    ∃ (w : World) (tape : Tape) (i : Input), w.os = os ∧ (w.forCall tape i).Shaped C.prog ∧ i.vars = [] ∧ Input.okWide C.prog (w.forCall tape i) .any w.heap.size f i ∧
      ((s.pre enc C.prog fn conds apart (w.forCall tape i).memory i.args ∧ X (w.forCall tape i).memory i.args) ∧ sizedMet enc C.prog fn s apart (w.forCall tape i).memory i.args) ∧ ({ modest := modest } : Assume).holds C.prog (lone (Frame.enter C.prog f i.args .normal) [] (w.forCall tape i)) :=
  ⟨w0, fun _ _ => 0, ⟨#[], args, []⟩, hos, hsh, (Input.okWide_of_okWideB (base := 0) hok).1, (Input.okWide_of_okWideB hok).2,
    ⟨⟨(OpenSpec.pre_some hk conds apart _ _).2 ⟨x.1, x.2.1, x.2.2, DataW.Whole_of_whole hx, hconds, hkk⟩, hX⟩, sizedMet_of_sizedB hsz⟩, by
    simp only [Assume.holds]
    exact ⟨by simp, by simp, fun _ => Modest.zero, by simp, by simp⟩⟩

/-- A law that returns true for all data of its parameters' shapes that meet the bound, in worlds whose variables are as laid. -/
theorem law_lift_upto [Inhabited GlobS] {a : Assume} {C : Checked} {os : Os} {f : FuncId} {fn : Func} {s : ChangeSpec} {o : OpenSpec} {k : (H : Type) → List (DataW H) → Bool} {laid : List (String × DataW Unit)} {H : Type} {enc : TypeId × Value → H} (F : Stop.Interp) (tb : TypeId)
    (ho : o = { OpenSpec.ofChange s with cond := some k })
    (own : ownKnob C.prog.godebug = none) (started : os.Started) (noInit : C.prog.inits.idxOf? f = none) (hfn : C.prog.funcs[f]? = some fn)
    (witness : ∃ (w : World) (tape : Tape) (i : Input), w.os = os ∧ (w.forCall tape i).Shaped C.prog ∧ i.vars = [] ∧ Input.okWide C.prog (w.forCall tape i) .any w.heap.size f i ∧
      ((o.pre enc C.prog fn [] false (w.forCall tape i).memory i.args ∧ laidMetH C.prog laid (w.forCall tape i).memory) ∧ sizedMet enc C.prog fn o false (w.forCall tape i).memory i.args) ∧ a.holds C.prog (lone (Frame.enter C.prog f i.args .normal) [] (w.forCall tape i)))
    (hl : laidOutB C.prog = true) (hp : (fn.params.toList.all (plainT C.prog 20)) = true) (hr : (fn.params.toList.all fun t => C.prog.readableRec t && decide (t < C.prog.types.size)) = true)
    (hres : fn.resultTypes = #[tb]) (hb : C.prog.underlying tb = some .bool) (hv : s.vars = []) (hsp : ∀ (ds : List (DataW H)), ds.length = fn.params.size → s.fn H ds = { results := [.lit (.bool true)], args := ds })
    (hgl : ∀ W : World, laidMetH C.prog laid W → W.ShapedOpen C.prog → Gok W)
    (law : ∀ (W : World) (base : Nat) (vs : List Value) (ds : List (DataW H)) (ps : List MemPlace) (dargs : List DV), (∀ (j : Nat) t v, fn.params.toList[j]? = some t → vs[j]? = some v → Value.okWide C.prog W .any base t v) →
      DataW.TrodAll enc C.prog W 0 (fun _ => true) true fn.params.toList vs ds ps → k H ds = true → Pw W (fun _ => True) (fun _ => none) dargs vs → ShpAll C.prog fn.params.toList dargs → DPure C.prog f dargs (.v (.bool true))) :
    ReturnsInHanded a C os f .any (fun w args => (o.pre enc C.prog fn [] false w args ∧ laidMetH C.prog laid w) ∧ sizedMet enc C.prog fn o false w args) ((o.at F).post enc C.prog fn false true false false) := by
  have hk : o.cond = some k := by rw [ho]
  have hov : o.vars = [] := by rw [ho]; exact hv
  have hpost : (o.at F).post enc C.prog fn false true false false = s.post enc C.prog fn false true false false := by rw [ho]; rfl
  rw [hpost]
  refine returnsInHanded_of_calls own started noInit witness ?_
  intro w tape i _ hsh _ hok hpre hholds
  obtain ⟨_, _, _, fn', hfn', _, _, _, _, hval⟩ := hok
  have e : fn' = fn := Option.some.inj (hfn'.symm.trans hfn)
  subst e
  obtain ⟨⟨hp0, hL0⟩, hz⟩ := hpre
  obtain ⟨ds, gs, before, hw, _, hkk⟩ := (OpenSpec.pre_some hk [] false _ _).1 hp0
  have hwo := DataW.Whole.of_heap (w' := w.forCall tape i) (by rfl) hw
  have hsz := hz.weights hw
  have hL : laidMetH C.prog laid (w.forCall tape i) := hL0.of_heap (by rfl)
  generalize hWe : w.forCall tape i = W at hwo hL hsh hval ⊢
  generalize hba : w.heap.size = base at hval
  generalize hae : i.args = args at hwo hval ⊢
  rw [hov] at hwo
  have hW' : DataW.Whole enc C.prog fn'.params.toList s.vars false W args.toList ds gs before := by rw [hv]; exact hwo
  refine Calls.mono (R := fun e W' => ∃ v, e = .returned v ∧ s.post enc C.prog fn' false true false false W args v W') ?_ fun e W' ⟨v, he, hp⟩ => ?_
  · have hWo := hwo
    obtain ⟨p, q, hA, hV, rfl, hfz, hnd⟩ := hWo
    obtain ⟨rfl, rfl⟩ := trodVars_none hV
    have hvt : o.bare.plain.varTypes C.prog = [] := by rw [ho]; simp [DataSpec.varTypes, ChangeSpec.plain, OpenSpec.bare, OpenSpec.ofChange, hv]
    rw [hvt, List.append_nil, List.append_nil] at hsz
    rw [List.append_nil] at hkk
    simp only [List.all_eq_true, decide_eq_true_eq] at hsz
    have hval' : ∀ (j : Nat) t v, fn'.params.toList[j]? = some t → args.toList[j]? = some v → Value.okWide C.prog W .any base t v := fun j t v h1 h2 => hval j t v (by simpa using h1) (by simpa using h2)
    obtain ⟨dvs, k1, k2⟩ := shpAll_of fn'.params.toList args.toList ds p hp hval' hA hsz
    have := law W base args.toList ds p dvs hval' hA hkk k2 k1 W (fun _ => True) args.toList (hgl W hL hsh) (fun _ _ => trivial) k2
    simp only [Array.toArray_toList] at this
    refine this.mono fun e W' ⟨v, r, s', β', he, hr', hs, hrv⟩ => ?_
    subst he; subst hr'
    have hv' := rv_v hrv
    subst hv'
    have bel := hs.below
    have hlen := trodAll_len _ _ _ _ hA
    refine ⟨_, rfl, _, _, _, [], p, [], hW', ?_, ?_, ?_, bel.frame _, fun h => by cases h⟩
    · rw [hsp _ (by simpa using hlen), hres]
      exact trodAll_mk1 (shut_bool hb _)
    · rw [hsp _ (by simpa using hlen)]
      have := trodAll_below hl bel _ _ _ _ hr hA
      simpa using this
    · rw [hsp _ (by simpa using hlen), hv]
      rfl
  · subst he
    rw [← hWe, ← hae] at *
    exact ChangeSpec.post_blind hp
end Go.Dl
