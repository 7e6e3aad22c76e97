/- The law eddylaw23.PlanScripts returns true for every number of nodes, pairs, channel and inputs, and leaves its arguments as they were. No condition. -/
import Derived.Test.YtphgcgggbbcjgaaN
import Derived.Test.YtphgcgggbbcjgaaO
namespace Go.Proofs.Ytphgcgggbbcjgaa
open Go.RowKit Go.Dl

set_option maxRecDepth 100000 in
theorem planScripts_lifted (os : Os) (started : os.Started) (H : Type) (enc : TypeId × Value → H) :
    ReturnsInHanded {} Try.checked os 4 .any (Rows.planScriptsSpec.pre6 enc Try.prog Try.f4 Rows.planScriptsRow.domain false) (Rows.planScriptsSpec.post enc Try.prog Try.f4 false true false false) := by
  refine law_lift (C := Try.checked) 4 Try.own started (by kernel_rfl) Try.func4
    (ChangeSpec.witness6 (enc := enc) (C := Try.checked) false ⟨#[], #[.int .i64 0, .slice none 0 0, .string ByteArray.empty, .int .i64 0, .int .i64 0, .slice none 0 0], []⟩ 8 (by kernel_rfl) (by kernel_rfl) (by kernel_rfl) (by kernel_rfl))
    Try.laidOut (by kernel_rfl) (by kernel_rfl) rfl Try.underlying4 rfl ?_ (fun _ => trivial) ?_
  · intro ds hds
    match ds, hds with
    | [d1, d2, d3, d4, d5, d6], _ => rfl
  · intro dargs h
    have h : ShpAll Try.prog [3, 23, 9, 3, 2, 33] dargs := h
    obtain ⟨d1, l1, rfl, h1, h⟩ := shpAll_cons h
    obtain ⟨d2, l2, rfl, h2, h⟩ := shpAll_cons h
    obtain ⟨d3, l3, rfl, h3, h⟩ := shpAll_cons h
    obtain ⟨d4, l4, rfl, h4, h⟩ := shpAll_cons h
    obtain ⟨d5, l5, rfl, h5, h⟩ := shpAll_cons h
    obtain ⟨d6, l6, rfl, h6, h⟩ := shpAll_cons h
    obtain rfl := shpAll_nil h
    obtain ⟨n, rfl, _⟩ := int_arg h1
    obtain ⟨l, rfl⟩ := links_arg h2
    obtain ⟨s, rfl, _⟩ := str_arg h3
    obtain ⟨k, rfl, _⟩ := int_arg h4
    obtain ⟨c, rfl, _⟩ := int2_arg h5
    obtain ⟨xs, rfl⟩ := ints2_arg h6
    exact scripts4_D n l s k c xs

theorem planScripts_holds : Rows.PlanScriptsSaid :=
  OpenClaim.holds_of_wide 4 Try.f4 rfl rfl rfl rfl rfl rfl rfl ⟨rfl, rfl, rfl, rfl, rfl⟩ rfl rfl rfl rfl rfl (by kernel_rfl) Try.func4 (by kernel_rfl)
    (of_decide_eq_true (by kernel_rfl)) (by unfold Func.isWrapper; rw [if_neg (of_decide_eq_false (by kernel_rfl))]; exact ⟨rfl, rfl⟩)
    (fun os started H enc _ => planScripts_lifted os started H enc)
end Go.Proofs.Ytphgcgggbbcjgaa
