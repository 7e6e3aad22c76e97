/- The law eddylaw13.TopoBack returns true for every number, list, turn and neighbour, and leaves its arguments as they were. No condition. -/
import Derived.Test.YtopdllcpeaflaaaY
import Derived.Test.YtopdllcpeaflaaaK
namespace Go.Proofs.Ytopdllcpeaflaaa
open Go.RowKit Go.Dl

set_option maxRecDepth 100000 in
theorem topoBack_lifted (os : Os) (started : os.Started) (H : Type) (enc : TypeId × Value → H) :
    ReturnsInHanded {} Try.checked os 10 .any (Rows.topoBackSpec.pre6 enc Try.prog Try.f10 Rows.topoBackRow.domain false) (Rows.topoBackSpec.post enc Try.prog Try.f10 false true false false) := by
  refine law_lift (C := Try.checked) 4 Try.own started (by kernel_rfl) Try.func10
    (ChangeSpec.witness6 (enc := enc) (C := Try.checked) false ⟨#[], #[.int .i64 0, .slice none 0 0, .int .i64 0, .int .i64 0], []⟩ 8 (by kernel_rfl) (by kernel_rfl) (by kernel_rfl) (by kernel_rfl))
    Try.laidOut (by kernel_rfl) (by kernel_rfl) rfl Try.underlying4 rfl ?_ ?_
  · intro ds hds
    match ds, hds with
    | [d1, d2, d3, d4], _ => rfl
  · intro dargs h
    have h : ShpAll Try.prog [3, 25, 3, 3] dargs := h
    obtain ⟨d1, l1, rfl, h1, h⟩ := shpAll_cons h
    obtain ⟨d2, l2, rfl, h2, h⟩ := shpAll_cons h
    obtain ⟨d3, l3, rfl, h3, h⟩ := shpAll_cons h
    obtain ⟨d4, l4, rfl, h4, h⟩ := shpAll_cons h
    obtain rfl := shpAll_nil h
    obtain ⟨id, rfl, _⟩ := int_arg h1
    obtain ⟨l, rfl, _, _⟩ := ints_arg h2
    obtain ⟨t, rfl, _⟩ := int_arg h3
    obtain ⟨v, rfl, _⟩ := int_arg h4
    exact back10_D id l t v

theorem topoBack_holds : Rows.TopoBackSaid :=
  OpenClaim.holds_of_wide 10 Try.f10 rfl rfl rfl rfl rfl rfl rfl ⟨rfl, rfl, rfl, rfl, rfl⟩ rfl rfl rfl rfl rfl (by kernel_rfl) Try.func10 (by kernel_rfl)
    (of_decide_eq_true (by kernel_rfl)) (by unfold Func.isWrapper; rw [if_neg (of_decide_eq_false (by kernel_rfl))]; exact ⟨rfl, rfl⟩)
    (fun os started H enc _ => topoBack_lifted os started H enc)
end Go.Proofs.Ytopdllcpeaflaaa
