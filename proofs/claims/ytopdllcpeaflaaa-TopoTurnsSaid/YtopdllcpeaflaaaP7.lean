/- The law eddylaw13.TopoTurns returns true for every number, list and turn, and leaves its arguments as they were. No condition. -/
import Derived.Test.YtopdllcpeaflaaaX
import Derived.Test.YtopdllcpeaflaaaK
namespace Go.Proofs.Ytopdllcpeaflaaa
open Go.RowKit Go.Dl

set_option maxRecDepth 100000 in
theorem topoTurns_lifted (os : Os) (started : os.Started) (H : Type) (enc : TypeId × Value → H) :
    ReturnsInHanded {} Try.checked os 9 .any (Rows.topoTurnsSpec.pre6 enc Try.prog Try.f9 Rows.topoTurnsRow.domain false) (Rows.topoTurnsSpec.post enc Try.prog Try.f9 false true false false) := by
  refine law_lift (C := Try.checked) 4 Try.own started (by kernel_rfl) Try.func9
    (ChangeSpec.witness6 (enc := enc) (C := Try.checked) false ⟨#[], #[.int .i64 0, .slice none 0 0, .int .i64 0], []⟩ 8 (by kernel_rfl) (by kernel_rfl) (by kernel_rfl) (by kernel_rfl))
    Try.laidOut (by kernel_rfl) (by kernel_rfl) rfl Try.underlying4 rfl ?_ ?_
  · intro ds hds
    match ds, hds with
    | [d1, d2, d3], _ => rfl
  · intro dargs h
    have h : ShpAll Try.prog [3, 25, 3] dargs := h
    obtain ⟨d1, l1, rfl, h1, h⟩ := shpAll_cons h
    obtain ⟨d2, l2, rfl, h2, h⟩ := shpAll_cons h
    obtain ⟨d3, l3, rfl, h3, h⟩ := shpAll_cons h
    obtain rfl := shpAll_nil h
    obtain ⟨id, rfl, _⟩ := int_arg h1
    obtain ⟨l, rfl, _, _⟩ := ints_arg h2
    obtain ⟨t, rfl, _⟩ := int_arg h3
    by_cases he : l = []
    · subst he; exact turns9_0 id t
    exact turns9_D id l t he

theorem topoTurns_holds : Rows.TopoTurnsSaid :=
  OpenClaim.holds_of_wide 9 Try.f9 rfl rfl rfl rfl rfl rfl rfl ⟨rfl, rfl, rfl, rfl, rfl⟩ rfl rfl rfl rfl rfl (by kernel_rfl) Try.func9 (by kernel_rfl)
    (of_decide_eq_true (by kernel_rfl)) (by unfold Func.isWrapper; rw [if_neg (of_decide_eq_false (by kernel_rfl))]; exact ⟨rfl, rfl⟩)
    (fun os started H enc _ => topoTurns_lifted os started H enc)
end Go.Proofs.Ytopdllcpeaflaaa
