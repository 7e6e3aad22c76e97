/- Pairs and numbers, as they come in. -/
import Derived.Test.YtphgcgggbbcjgaaA
namespace Go.Proofs.Ytphgcgggbbcjgaa
open Go.RowKit Go.Dl

theorem tab44 : fldTab Try.prog 44 = some [(3, 0, 1), (3, 1, 1)] := by kernel_rfl
theorem cells44 : Try.prog.cellsOf 44 = 2 := by kernel_rfl
theorem cells2 : Try.prog.cellsOf 2 = 1 := by kernel_rfl
theorem link_row (r : List DV) (h : Shp Try.prog 44 r) : ∃ a : Lk, r = linkD a ∧ True := by
  obtain ⟨hl, h1, h2, _⟩ := Shp.struct_inv tab44 h
  rw [cells44] at hl
  match r, hl with
  | [a, b], _ =>
    obtain ⟨x, e1, _⟩ := Shp.int_inv Try.underlying3 h1
    obtain ⟨y, e2, _⟩ := Shp.int_inv Try.underlying3 h2
    cases e1; cases e2
    exact ⟨(x, y), rfl, trivial⟩
theorem int2_row (r : List DV) (h : Shp Try.prog 2 r) : ∃ x : Int, r = intD x ∧ (Lit.int .i64 x).wf = true := Shp.int_inv Try.underlying2 h
theorem int_arg {d : DV} (h : ShpV Try.prog 3 d) : ∃ x : Int, d = int1 x ∧ (Lit.int .i64 x).wf = true := ShpV.int_inv Try.underlying3 h
theorem int2_arg {d : DV} (h : ShpV Try.prog 2 d) : ∃ x : Int, d = int1 x ∧ (Lit.int .i64 x).wf = true := ShpV.int_inv Try.underlying2 h
theorem u64_arg {d : DV} (h : ShpV Try.prog 22 d) : ∃ x : Int, d = .v (.int .u64 x) ∧ (Lit.int .u64 x).wf = true := ShpV.int_inv Try.underlying22 h
theorem str_arg {d : DV} (h : ShpV Try.prog 9 d) : ∃ s, d = .v (.string s) ∧ s.size ≤ reachBytes := ShpV.str_inv Try.underlying9 h
theorem links_arg {d : DV} (h : ShpV Try.prog 23 d) : ∃ l : List Lk, d = links l := by
  obtain ⟨l, h1, _, _⟩ := ShpV.slice_inv Try.underlying23 link_row h
  rw [cells44] at h1
  exact ⟨l, h1⟩
theorem ints2_arg {d : DV} (h : ShpV Try.prog 33 d) : ∃ l : List Int, d = ints l := by
  obtain ⟨l, h1, _, _⟩ := ShpV.slice_inv Try.underlying33 int2_row h
  rw [cells2] at h1
  exact ⟨l, h1⟩
theorem Try.own : ownKnob Try.prog.godebug = none := by kernel_rfl
theorem Try.laidOut : laidOutB Try.prog = true := by kernel_rfl
end Go.Proofs.Ytphgcgggbbcjgaa
