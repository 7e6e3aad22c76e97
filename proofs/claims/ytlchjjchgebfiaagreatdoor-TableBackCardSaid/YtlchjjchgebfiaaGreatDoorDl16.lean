/-
  The data-level logic, part 16: scopes (labels that the code jumps to).
-/
import Derived.Test.YtlchjjchgebfiaaGreatDoorDl15
import Derived.ScopeJumps
namespace Go.Dl
open Go Go.RowKit

def dnoGoto (Q : DExit → St → Prop) : DExit → St → Prop
  | .goto _, _ => False
  | e, st => Q e st

/-- A scope through which the run goes without a jump. -/
theorem Tri.scope [Inhabited GlobS] {P : Program} {N : Nat} {Y : YT} {c : Code} {st : St} {Q : DExit → St → Prop} (hk : codeOk P N c = true) (h : dcode P N Y c st (dnoGoto Q)) : Tri P N Y (.scope c) st Q := fun G hN hY β a w R hr hR =>
  wpIn_scope_straight (dcode_sound c hk h G hN hY β a w _ hr fun e st' β' a' w' hq hr' => by
    cases e with
    | normal => exact hR .normal _ _ _ _ hq hr'
    | exit id => exact hR (.exit id) _ _ _ _ hq hr'
    | goto l => exact hq.elim
    | ret => exact hR .ret _ _ _ _ hq hr')

def djump (l : Nat) (J : St → Prop) (Q : DExit → St → Prop) : DExit → St → Prop
  | .goto l', st => l' = l ∧ J st
  | e, st => Q e st

/-- A scope in which the run jumps back to one label. -/
theorem Tri.scopeJ [Inhabited GlobS] {P : Program} {N : Nat} {Y : YT} {c rest : Code} {st : St} {Q : DExit → St → Prop} {ι : Type} (l : Nat) (stf : ι → St) (pre : ι → Prop) (μ : ι → Nat) (hf : findLabel c l = some rest)
    (hk : codeOk P N c = true) (hk2 : codeOk P N rest = true) (first : dcode P N Y c st (djump l (fun st' => ∃ j, pre j ∧ Weak st' (stf j)) Q))
    (pass : ∀ i, pre i → dcode P N Y rest (stf i) (djump l (Round stf pre μ i) Q)) : Tri P N Y (.scope c) st Q := fun G hN hY β a w R hr hR => by
  refine wpIn_scope_jumps l (fun a w => ∃ n i β, pre i ∧ μ i = n ∧ Rel G (stf i) β a w) (fun a w => leastOf (fun n => ∃ i β, pre i ∧ μ i = n ∧ Rel G (stf i) β a w)) hf ?_ ?_
  · refine dcode_sound c hk first G hN hY β a w _ hr fun e st' β' a' w' hq hr' => ?_
    cases e with
    | normal => exact hR .normal _ _ _ _ hq hr'
    | exit id => exact hR (.exit id) _ _ _ _ hq hr'
    | goto l' =>
      obtain ⟨rfl, j, h1, h2⟩ := hq
      obtain ⟨β'', hr''⟩ := h2 G β' a' w' hr'
      exact ⟨rfl, μ j, j, β'', h1, rfl, hr''⟩
    | ret => exact hR .ret _ _ _ _ hq hr'
  · intro a w hJ
    have hl := leastOf_spec (p := fun n => ∃ i β, pre i ∧ μ i = n ∧ Rel G (stf i) β a w) hJ
    obtain ⟨⟨i, β, h1, h2, h3⟩, _⟩ := hl
    refine dcode_sound rest hk2 (pass i h1) G hN hY β a w _ h3 fun e st' β' a' w' hq hr' => ?_
    cases e with
    | normal => exact hR .normal _ _ _ _ hq hr'
    | exit id => exact hR (.exit id) _ _ _ _ hq hr'
    | goto l' =>
      obtain ⟨rfl, j, g1, g2, g3⟩ := hq
      obtain ⟨β'', hr''⟩ := g3 G β' a' w' hr'
      have hex : ∃ n, ∃ i β, pre i ∧ μ i = n ∧ Rel G (stf i) β a' w' := ⟨μ j, j, β'', g1, rfl, hr''⟩
      refine ⟨rfl, hex, ?_⟩
      have := (leastOf_spec (p := fun n => ∃ i β, pre i ∧ μ i = n ∧ Rel G (stf i) β a' w') hex).2 (μ j) ⟨j, β'', g1, rfl, hr''⟩
      rw [← h2]
      exact Nat.lt_of_le_of_lt this (by omega)
    | ret => exact hR .ret _ _ _ _ hq hr'

end Go.Dl
