/- The law eddylaw23.PlanWays returns true for every number of nodes and pairs, and leaves its arguments as they were. No condition. -/
import Derived.Test.YtphgcgggbbcjgaaW
import Derived.Test.YtphgcgggbbcjgaaO
namespace Go.Proofs.Ytphgcgggbbcjgaa
open Go.RowKit Go.Dl

set_option maxRecDepth 100000 in
theorem planWays_lifted (os : Os) (started : os.Started) (H : Type) (enc : TypeId × Value → H) :
    ReturnsInHanded {} Try.checked os 5 .any (Rows.planWaysSpec.pre6 enc Try.prog Try.f5 Rows.planWaysRow.domain false) (Rows.planWaysSpec.post enc Try.prog Try.f5 false true false false) := by
  refine law_lift (C := Try.checked) 4 Try.own started (by kernel_rfl) Try.func5
    (ChangeSpec.witness6 (enc := enc) (C := Try.checked) false ⟨#[], #[.int .i64 0, .slice none 0 0], []⟩ 8 (by kernel_rfl) (by kernel_rfl) (by kernel_rfl) (by kernel_rfl))
    Try.laidOut (by kernel_rfl) (by kernel_rfl) rfl Try.underlying4 rfl ?_ (fun _ => trivial) ?_
  · intro ds hds
    match ds, hds with
    | [d1, d2], _ => rfl
  · intro dargs h
    have h : ShpAll Try.prog [3, 23] dargs := h
    obtain ⟨d1, l1, rfl, h1, h⟩ := shpAll_cons h
    obtain ⟨d2, l2, rfl, h2, h⟩ := shpAll_cons h
    obtain rfl := shpAll_nil h
    obtain ⟨n, rfl, _⟩ := int_arg h1
    obtain ⟨l, rfl⟩ := links_arg h2
    exact ways5_D n l

theorem planWays_holds : Rows.PlanWaysSaid :=
  OpenClaim.holds_of_wide 5 Try.f5 rfl rfl rfl rfl rfl rfl rfl ⟨rfl, rfl, rfl, rfl, rfl⟩ rfl rfl rfl rfl rfl (by kernel_rfl) Try.func5 (by kernel_rfl)
    (of_decide_eq_true (by kernel_rfl)) (by unfold Func.isWrapper; rw [if_neg (of_decide_eq_false (by kernel_rfl))]; exact ⟨rfl, rfl⟩)
    (fun os started H enc _ => planWays_lifted os started H enc)
end Go.Proofs.Ytphgcgggbbcjgaa
