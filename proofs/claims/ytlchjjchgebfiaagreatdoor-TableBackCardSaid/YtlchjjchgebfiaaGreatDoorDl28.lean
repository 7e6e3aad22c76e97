/-
  The data-level logic, part 28: a comparison that was walked at this level, handed to the kit's contract of slices.SortFunc.
-/
import Derived.Test.YtlchjjchgebfiaaGreatDoorDl27
namespace Go.Dl
open Go Go.RowKit

theorem pw_two {w : World} {F : Nat → Prop} {β : Beta} {xs ys : List Value} (hx : ∀ v ∈ xs, v.oneCell' = true) (hy : ∀ v ∈ ys, v.oneCell' = true) : Pw w F β [.agg (xs.map .v), .agg (ys.map .v)] [.agg xs.toArray, .agg ys.toArray] := by
  have one : ∀ {zs : List Value}, (∀ v ∈ zs, v.oneCell' = true) → RV w F β (.agg (zs.map .v)) (.agg zs.toArray) := fun {zs} hz => by
    refine RV.agg (zs.map DV.v) zs (by simp) (fun i d x h1 h2 => ?_)
    rw [List.getElem?_map, h2] at h1
    cases h1
    exact .data (.v _ (hz x (List.mem_of_getElem? h2)))
  exact Pw.cons (one hx) (Pw.cons (one hy) Pw.nil)
/-- A comparison that keeps account of draws: what the kit's sort asks of it. -/
theorem cmp_calls [Inhabited GlobS] {P : Program} {g : FuncId} {xs ys : List Value} {r : Int} (hd : Drs = true) (hx : ∀ v ∈ xs, v.oneCell' = true) (hy : ∀ v ∈ ys, v.oneCell' = true)
    (h : DPure P g [.agg (xs.map .v), .agg (ys.map .v)] (.v (.int .i64 r))) (W : World) (hg : Gok W) : Calls P g #[.agg xs.toArray, .agg ys.toArray] W fun e w' => e = .returned (.int .i64 r) ∧ ∃ q os', w' = Sort.grow (W.drewN q) os' := by
  refine Calls.mono (h W (fun _ => True) [.agg xs.toArray, .agg ys.toArray] hg (fun _ _ => trivial) (pw_two hx hy)) fun e w' ⟨v, r, s', β', he, hr, hs, hv⟩ => ?_
  subst hr
  have := rv_v hv
  subst this
  exact ⟨he, hs.below.grown hd⟩
/-- A call with nothing to sort. -/
theorem SCall.same0 [Inhabited GlobS] {P : Program} {f g : FuncId} {s : Sto} {id : Nat} {o : DObj} {K : DV → Sto → Prop} (_hob : s.ob id = some o)
    (hcon : ∀ (p : Option Addr) (cap : Nat) (w : World), Calls P f #[.slice p 0 cap, .func (.func g) #[] #[]] w fun e w' => e = .returned (.tuple #[]) ∧ w' = w) (hK : K (.tup []) s) : SCall P f [.arr id 0, .clo (.func g) [] []] s K := by
  intro w0 F0 β w vals hs hx
  obtain ⟨hl2, hx⟩ := hx
  match vals, hl2 with
  | [x, y], _ =>
  have hx0 := hx 0 _ _ rfl rfl
  have hx1 := hx 1 _ _ rfl rfl
  obtain ⟨xs, ys, rfl, hl3, hl4, _⟩ := rv_clo hx1
  have e1 : xs = [] := List.length_eq_zero_iff.1 hl3.symm
  have e2 : ys = [] := List.length_eq_zero_iff.1 hl4.symm
  subst e1 e2
  have fin : ∀ p cap, Calls P f #[.slice p 0 cap, .func (.func g) #[] #[]] w fun e w' => ∃ v r s' β', e = .returned v ∧ K r s' ∧ SRel w0 F0 s' β' w' ∧ Ext s.nx w0 nX s β w s' β' w' ∧ s.nx ≤ s'.nx ∧ RV w' (Fr w0 F0 s' β') β' r v := fun p cap =>
    (hcon p cap w).mono fun e w' ⟨he, hw⟩ => by
      subst hw
      exact ⟨_, _, s, β, he, hK, hs, Ext.refl, Nat.le_refl _, .tup [] [] rfl (fun i d x h => by simp at h)⟩
  rcases rv_arr hx0 with ⟨b, c, hb, hle, rfl⟩ | ⟨hb, hz, rfl⟩
  · exact fin _ _
  · exact fin _ _
end Go.Dl
