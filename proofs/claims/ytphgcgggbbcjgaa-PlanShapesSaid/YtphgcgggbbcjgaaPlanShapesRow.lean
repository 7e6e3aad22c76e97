/- The law eddylaw23.PlanShapes returns true for every shape, number of nodes and parameter, and leaves its arguments as they were. No condition. -/
import Derived.Test.YtphgcgggbbcjgaaPkD

namespace Go.Proofs.Ytphgcgggbbcjgaa
open Go.RowKit Go.Dl

set_option maxRecDepth 100000 in
theorem planShapes_lifted (os : Os) (started : os.Started) (H : Type) (enc : TypeId × Value → H) :
    ReturnsInHanded {} Try.checked os 7 .any (Rows.planShapesSpec.pre6 enc Try.prog Try.f7 Rows.planShapesRow.domain false) (Rows.planShapesSpec.post enc Try.prog Try.f7 false true false false) := by
  refine law_lift (C := Try.checked) 4 Try.own started (by kernel_rfl) Try.func7
    (ChangeSpec.witness6 (enc := enc) (C := Try.checked) false ⟨#[], #[.int .i64 0, .int .i64 0, .int .i64 0], []⟩ 8 (by kernel_rfl) (by kernel_rfl) (by kernel_rfl) (by kernel_rfl))
    Try.laidOut (by kernel_rfl) (by kernel_rfl) rfl Try.underlying4 rfl ?_ (fun _ => trivial) ?_
  · intro ds hds
    match ds, hds with
    | [d1, d2, d3], _ => rfl
  · intro dargs h
    have h : ShpAll Try.prog [3, 3, 3] dargs := h
    obtain ⟨d1, l1, rfl, h1, h⟩ := shpAll_cons h
    obtain ⟨d2, l2, rfl, h2, h⟩ := shpAll_cons h
    obtain ⟨d3, l3, rfl, h3, h⟩ := shpAll_cons h
    obtain rfl := shpAll_nil h
    obtain ⟨s, rfl, _⟩ := int_arg h1
    obtain ⟨n, rfl, _⟩ := int_arg h2
    obtain ⟨k, rfl, _⟩ := int_arg h3
    exact planShapes7_D s n k

theorem planShapes_holds : Rows.PlanShapesSaid :=
  OpenClaim.holds_of_wide 7 Try.f7 rfl rfl rfl rfl rfl rfl rfl ⟨rfl, rfl, rfl, rfl, rfl⟩ rfl rfl rfl rfl rfl (by kernel_rfl) Try.func7 (by kernel_rfl)
    (of_decide_eq_true (by kernel_rfl)) (by unfold Func.isWrapper; rw [if_neg (of_decide_eq_false (by kernel_rfl))]; exact ⟨rfl, rfl⟩)
    (fun os started H enc _ => planShapes_lifted os started H enc)
end Go.Proofs.Ytphgcgggbbcjgaa


