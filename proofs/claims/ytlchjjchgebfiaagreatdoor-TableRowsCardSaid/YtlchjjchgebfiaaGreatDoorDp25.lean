/-
  The data-level logic, part 25: laws over variables that the program's text has laid; errors compared with nil.
-/
import Derived.Test.YtlchjjchgebfiaaGreatDoorDp24
import Derived.HandedShaped
import Derived.WalkSmall
import Derived.LaidLaws
import Derived.Lay
import Derived.MakeChecks
import Derived.Stop.Joined

namespace Go.Dl
open Go Go.RowKit Go.ChangeShapes
theorem returns_and_shaped {H : Type} {enc : TypeId × Value → H} {a : Assume} {C : Checked} {os : Os} {f : FuncId} {fn : Func} {s : ChangeSpec} {conds : List PathCond} {apart fresh handsOn again : Bool} {X : World → Array Value → Prop}
    (hX : ∀ (w w' : World) (args : Array Value), w.heap = w'.heap → X w args → X w' args)
    (own : ownKnob C.prog.godebug = none) (started : os.Started) (noInit : C.prog.inits.idxOf? f = none) (hfn : C.prog.funcs[f]? = some fn)
    (witness : ∃ (w : World) (tape : Tape) (i : Input), w.os = os ∧ (w.forCall tape i).Shaped C.prog ∧ i.vars = [] ∧ Input.okWide C.prog (w.forCall tape i) .any w.heap.size f i ∧
      ((s.pre enc C.prog fn conds apart (w.forCall tape i).memory i.args ∧ X (w.forCall tape i).memory i.args) ∧ sizedMet enc C.prog fn (OpenSpec.ofChange s) apart (w.forCall tape i).memory i.args) ∧ a.holds C.prog (lone (Frame.enter C.prog f i.args .normal) [] (w.forCall tape i)))
    (contract : ∀ (W : World) (base : Nat) (args : Array Value) (ds gs : List (DataW H)) (before : List MemPlace),
      (∀ (j : Nat) t v, fn.params[j]? = some t → args[j]? = some v → Value.okWide C.prog W .any base t v) →
      DataW.Whole enc C.prog fn.params.toList s.vars apart W args.toList ds gs before →
      (DataW.weightsEach C.prog (fn.params.toList ++ s.plain.varTypes C.prog) (ds ++ gs)).all (· ≤ reachBytes) = true → X W args → W.ShapedOpen C.prog →
      Calls C.prog f args W fun e W' => ∃ v, e = .returned v ∧ s.post enc C.prog fn apart fresh handsOn again W args v W') :
    ReturnsInHanded a C os f .any (fun w args => (s.pre enc C.prog fn conds apart w args ∧ X w args) ∧ sizedMet enc C.prog fn (OpenSpec.ofChange s) apart w args) (s.post enc C.prog fn apart fresh handsOn again) := by
  refine returnsInHanded_of_calls own started noInit witness ?_
  intro w tape i _ hsh _ hok hpre hholds
  obtain ⟨_, _, _, fn', hfn', _, _, _, _, hval⟩ := hok
  have e : fn' = fn := Option.some.inj (hfn'.symm.trans hfn)
  subst e
  obtain ⟨⟨⟨ds, gs, before, hw, _⟩, hx⟩, hz⟩ := hpre
  have hw' := DataW.Whole.of_heap (w' := w.forCall tape i) (by rfl) hw
  refine (contract (w.forCall tape i) w.heap.size i.args ds gs before hval hw' (hz.weights hw) (hX _ _ _ (by rfl) hx) hsh).mono fun e W' ⟨v, he, hp⟩ => ?_
  subst he
  exact ChangeSpec.post_blind hp
theorem law_lift_laid [Inhabited GlobS] {a : Assume} {C : Checked} {os : Os} {f : FuncId} {fn : Func} {s : ChangeSpec} {laid : List (String × DataW Unit)} {H : Type} {enc : TypeId × Value → H} (tb : TypeId)
    (own : ownKnob C.prog.godebug = none) (started : os.Started) (noInit : C.prog.inits.idxOf? f = none) (hfn : C.prog.funcs[f]? = some fn)
    (witness : ∃ (w : World) (tape : Tape) (i : Input), w.os = os ∧ (w.forCall tape i).Shaped C.prog ∧ i.vars = [] ∧ Input.okWide C.prog (w.forCall tape i) .any w.heap.size f i ∧
      ((s.pre enc C.prog fn [] false (w.forCall tape i).memory i.args ∧ laidMetH C.prog laid (w.forCall tape i).memory) ∧ sizedMet enc C.prog fn (OpenSpec.ofChange s) false (w.forCall tape i).memory i.args) ∧ a.holds C.prog (lone (Frame.enter C.prog f i.args .normal) [] (w.forCall tape i)))
    (hl : laidOutB C.prog = true) (hp : (fn.params.toList.all (plainT C.prog 20)) = true) (hr : (fn.params.toList.all fun t => C.prog.readableRec t && decide (t < C.prog.types.size)) = true)
    (hres : fn.resultTypes = #[tb]) (hb : C.prog.underlying tb = some .bool) (hv : s.vars = []) (hsp : ∀ (ds : List (DataW H)), ds.length = fn.params.size → s.fn H ds = { results := [.lit (.bool true)], args := ds })
    (hgl : ∀ W : World, laidMetH C.prog laid W → W.ShapedOpen C.prog → Gok W) (law : ∀ dargs, ShpAll C.prog fn.params.toList dargs → DPure C.prog f dargs (.v (.bool true))) :
    ReturnsInHanded a C os f .any (fun w args => (s.pre enc C.prog fn [] false w args ∧ laidMetH C.prog laid w) ∧ sizedMet enc C.prog fn (OpenSpec.ofChange s) false w args) (s.post enc C.prog fn false true false false) := by
  refine returns_and_shaped (X := fun w _ => laidMetH C.prog laid w) (fun _ _ _ hh h => h.of_heap hh) own started noInit hfn witness ?_
  intro W base args ds gs before hval hW hsz hL hsh
  have hW' := hW
  obtain ⟨p, q, hA, hV, rfl, hfz, hnd⟩ := hW
  rw [hv] at hV
  obtain ⟨rfl, rfl⟩ := trodVars_none hV
  have hvt : s.plain.varTypes C.prog = [] := by simp [DataSpec.varTypes, ChangeSpec.plain, hv]
  rw [hvt, List.append_nil, List.append_nil] at hsz
  simp only [List.all_eq_true, decide_eq_true_eq] at hsz
  obtain ⟨dvs, k1, k2⟩ := shpAll_of fn.params.toList args.toList ds p hp (fun j t v h1 h2 => hval j t v (by simpa using h1) (by simpa using h2)) hA hsz
  have := law dvs k1 W (fun _ => True) args.toList (hgl W hL hsh) (fun _ _ => trivial) k2
  simp only [Array.toArray_toList] at this
  refine this.mono fun e W' ⟨v, r, s', β', he, hr', hs, hrv⟩ => ?_
  subst he; subst hr'
  have hv' := rv_v hrv
  subst hv'
  have bel := hs.below
  have hlen := trodAll_len _ _ _ _ hA
  refine ⟨_, rfl, _, _, _, [], p, [], hW', ?_, ?_, ?_, bel.frame _, fun h => by cases h⟩
  · rw [hsp _ (by simpa using hlen), hres]
    exact trodAll_mk1 (shut_bool hb _)
  · rw [hsp _ (by simpa using hlen)]
    have := trodAll_below hl bel _ _ _ _ hr hA
    simpa using this
  · rw [hsp _ (by simpa using hlen), hv]
    rfl
theorem rv_ifc {w : World} {F : Nat → Prop} {β : Beta} {t : TypeId} {d : DV} {x : Value} (h : RV w F β (.ifc t d) x) : ∃ y, x = .iface t y := by
  cases h with
  | data h => cases h
  | ifc _ _ y _ => exact ⟨y, rfl⟩
theorem equal_errNil {P : Program} {t te : TypeId} {ms : Array (String × TypeId)} (ht : P.underlying t = some (.interface ms)) (y : Value) (w : World) : (Op.equal t (.iface te y) .nilIface).run P w = .ok false w := by
  unfold Op.equal
  rw [show Op.maxDepth = 9999 + 1 from rfl]
  unfold Op.equalIn
  simp only [Sem.run_bind, run_underlying ht, Result.andThen_ok, Sem.run_pure]
theorem equal_nilNil {P : Program} {t : TypeId} {ms : Array (String × TypeId)} (ht : P.underlying t = some (.interface ms)) (w : World) : (Op.equal t .nilIface .nilIface).run P w = .ok true w := by
  unfold Op.equal
  rw [show Op.maxDepth = 9999 + 1 from rfl]
  unfold Op.equalIn
  simp only [Sem.run_bind, run_underlying ht, Result.andThen_ok, Sem.run_pure]
theorem qsem_errEq {P : Program} {s : Sto} {t te : TypeId} {ms : Array (String × TypeId)} {x : Operand} {yt : TypeId} {ρ : Operand → DV} {d : DV} (ht : P.underlying t = some (.interface ms)) (hx : ρ x = .ifc te d) : QSem P s (.binOp .eql t x (.const .nilIface) yt) ρ (.v (.bool false)) := by
  intro w0 F0 β w a hs hρ
  have h1 := hρ x
  rw [hx] at h1
  obtain ⟨y, ey⟩ := rv_ifc h1
  refine ⟨_, .data (.v _ rfl), fun o w' ho _ => ?_⟩
  have e2 : a.eval (.const .nilIface) = .nilIface := rfl
  have e3 : (eqGuard .eql t x (.const .nilIface) (.iface te y) .nilIface).run P w' = .ok () w' := by
    simp [eqGuard]
  simp only [execOp, ho, ey, e2, Sem.run_bind, e3, Result.andThen_ok, binOp, equal_errNil ht, Sem.run_pure]
theorem qsem_nilEq {P : Program} {s : Sto} {t : TypeId} {ms : Array (String × TypeId)} {x : Operand} {yt : TypeId} {ρ : Operand → DV} (ht : P.underlying t = some (.interface ms)) (hx : ρ x = .v .nilIface) : QSem P s (.binOp .eql t x (.const .nilIface) yt) ρ (.v (.bool true)) := by
  intro w0 F0 β w a hs hρ
  have h1 := hρ x
  rw [hx] at h1
  have ey := rv_v h1
  refine ⟨_, .data (.v _ rfl), fun o w' ho _ => ?_⟩
  have e2 : a.eval (.const .nilIface) = .nilIface := rfl
  have e3 : (eqGuard .eql t x (.const .nilIface) .nilIface .nilIface).run P w' = .ok () w' := by
    simp [eqGuard]
  simp only [execOp, ho, ey, e2, Sem.run_bind, e3, Result.andThen_ok, binOp, equal_nilNil ht, Sem.run_pure]
theorem dq_errEq {P : Program} {s : Sto} {t te : TypeId} {ms : Array (String × TypeId)} {x : Operand} {yt : TypeId} {ρ : Operand → DV} {d : DV} {g : Bool} {K : DV → Prop} (ht : P.underlying t = some (.interface ms)) (hx : ρ x = .ifc te d) (hK : K (.v (.bool false))) :
    ∃ d, (g = true → QSem P s (.binOp .eql t x (.const .nilIface) yt) ρ d) ∧ K d := ⟨_, fun _ => qsem_errEq ht hx, hK⟩
theorem dq_nilEq {P : Program} {s : Sto} {t : TypeId} {ms : Array (String × TypeId)} {x : Operand} {yt : TypeId} {ρ : Operand → DV} {g : Bool} {K : DV → Prop} (ht : P.underlying t = some (.interface ms)) (hx : ρ x = .v .nilIface) (hK : K (.v (.bool true))) :
    ∃ d, (g = true → QSem P s (.binOp .eql t x (.const .nilIface) yt) ρ d) ∧ K d := ⟨_, fun _ => qsem_nilEq ht hx, hK⟩
end Go.Dl


