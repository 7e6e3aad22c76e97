/- The law eddylaw23.PlanLinks returns true for every shape, number of nodes, parameter, seed and place, and leaves its arguments as they were. No condition. -/
import Derived.Test.YtphgcgggbbcjgaaPkD

namespace Go.Proofs.Ytphgcgggbbcjgaa
open Go.RowKit Go.Dl

set_option maxRecDepth 100000 in
theorem planLinks_lifted (os : Os) (started : os.Started) (H : Type) (enc : TypeId × Value → H) :
    ReturnsInHanded {} Try.checked os 3 .any (Rows.planLinksSpec.pre6 enc Try.prog Try.f3 Rows.planLinksRow.domain false) (Rows.planLinksSpec.post enc Try.prog Try.f3 false true false false) := by
  refine law_lift (C := Try.checked) 4 Try.own started (by kernel_rfl) Try.func3
    (ChangeSpec.witness6 (enc := enc) (C := Try.checked) false ⟨#[], #[.int .i64 0, .int .i64 0, .int .i64 0, .int .u64 0, .int .i64 0], []⟩ 8 (by kernel_rfl) (by kernel_rfl) (by kernel_rfl) (by kernel_rfl))
    Try.laidOut (by kernel_rfl) (by kernel_rfl) rfl Try.underlying4 rfl ?_ (fun _ => trivial) ?_
  · intro ds hds
    match ds, hds with
    | [d1, d2, d3, d4, d5], _ => rfl
  · intro dargs h
    have h : ShpAll Try.prog [3, 3, 3, 22, 3] dargs := h
    obtain ⟨d1, l1, rfl, h1, h⟩ := shpAll_cons h
    obtain ⟨d2, l2, rfl, h2, h⟩ := shpAll_cons h
    obtain ⟨d3, l3, rfl, h3, h⟩ := shpAll_cons h
    obtain ⟨d4, l4, rfl, h4, h⟩ := shpAll_cons h
    obtain ⟨d5, l5, rfl, h5, h⟩ := shpAll_cons h
    obtain rfl := shpAll_nil h
    obtain ⟨s, rfl, _⟩ := int_arg h1
    obtain ⟨n, rfl, _⟩ := int_arg h2
    obtain ⟨k, rfl, _⟩ := int_arg h3
    obtain ⟨x, rfl, _⟩ := u64_arg h4
    obtain ⟨j, rfl, _⟩ := int_arg h5
    exact planLinks3_D s n k x j

theorem planLinks_holds : Rows.PlanLinksSaid :=
  OpenClaim.holds_of_wide 3 Try.f3 rfl rfl rfl rfl rfl rfl rfl ⟨rfl, rfl, rfl, rfl, rfl⟩ rfl rfl rfl rfl rfl (by kernel_rfl) Try.func3 (by kernel_rfl)
    (of_decide_eq_true (by kernel_rfl)) (by unfold Func.isWrapper; rw [if_neg (of_decide_eq_false (by kernel_rfl))]; exact ⟨rfl, rfl⟩)
    (fun os started H enc _ => planLinks_lifted os started H enc)
end Go.Proofs.Ytphgcgggbbcjgaa


