/- Half-edges and rows of ints, as they come in. -/
import Derived.Test.YtopdllcpeaflaaaJ
namespace Go.Proofs.Ytopdllcpeaflaaa
open Go.RowKit Go.Dl

theorem tab39 : fldTab Try.prog 39 = some [(2, 0, 1), (3, 1, 1), (2, 2, 1)] := by kernel_rfl
theorem tab41 : fldTab Try.prog 41 = some [(9, 0, 1), (39, 1, 3)] := by kernel_rfl
theorem tab24 : fldTab Try.prog 24 = some [(3, 0, 1), (2, 1, 1), (2, 2, 1), (22, 3, 1), (4, 4, 1), (3, 5, 1)] := by kernel_rfl
theorem cells39 : Try.prog.cellsOf 39 = 3 := by kernel_rfl
theorem cells41 : Try.prog.cellsOf 41 = 4 := by kernel_rfl
theorem cells24 : Try.prog.cellsOf 24 = 6 := by kernel_rfl
theorem cells3 : Try.prog.cellsOf 3 = 1 := by kernel_rfl
theorem bytes3 : Try.prog.bytesOf 3 = 8 := by kernel_rfl

theorem int_row (r : List DV) (h : Shp Try.prog 3 r) : ∃ x : Int, r = intD x ∧ (Lit.int .i64 x).wf = true := Shp.int_inv Try.underlying3 h
theorem reg_row (r : List DV) (h : Shp Try.prog 39 r) : ∃ v w f : Int, r = [.v (.int .i64 v), .v (.int .i64 w), .v (.int .i64 f)] ∧ (Lit.int .i64 v).wf = true ∧ (Lit.int .i64 w).wf = true ∧ (Lit.int .i64 f).wf = true := by
  obtain ⟨hl, h1, h2, h3, _⟩ := Shp.struct_inv tab39 h
  rw [cells39] at hl
  match r, hl with
  | [a, b, c], _ =>
    obtain ⟨x, e1, w1⟩ := Shp.int_inv Try.underlying2 h1
    obtain ⟨y, e2, w2⟩ := Shp.int_inv Try.underlying3 h2
    obtain ⟨z, e3, w3⟩ := Shp.int_inv Try.underlying2 h3
    cases e1; cases e2; cases e3
    exact ⟨x, y, z, rfl, w1, w2, w3⟩
theorem line_row (r : List DV) (h : Shp Try.prog 41 r) : ∃ a : LineL, r = lineD a ∧ True := by
  obtain ⟨hl, h1, h2, _⟩ := Shp.struct_inv tab41 h
  rw [cells41] at hl
  match r, hl with
  | [a, b, c, d], _ =>
    obtain ⟨s, e1, _⟩ := Shp.str_inv Try.underlying9 h1
    obtain ⟨v, w, f, e2, _⟩ := reg_row _ h2
    cases e1; cases e2
    exact ⟨⟨s, v, w, f⟩, rfl, trivial⟩
theorem half_row (r : List DV) (h : Shp Try.prog 24 r) : ∃ a : HalfL, r = halfC a ∧ True := by
  obtain ⟨hl, h1, h2, h3, h4, h5, h6, _⟩ := Shp.struct_inv tab24 h
  rw [cells24] at hl
  match r, hl with
  | [a, b, c, d, e, f], _ =>
    obtain ⟨x, e1, _⟩ := Shp.int_inv Try.underlying3 h1
    obtain ⟨y, e2, _⟩ := Shp.int_inv Try.underlying2 h2
    obtain ⟨z, e3, _⟩ := Shp.int_inv Try.underlying2 h3
    obtain ⟨ls, e4, _⟩ := Shp.slice_inv Try.underlying22 line_row h4
    obtain ⟨p, e5⟩ := Shp.bool_inv Try.underlying4 h5
    obtain ⟨m, e6, _⟩ := Shp.int_inv Try.underlying3 h6
    rw [cells41] at e4
    cases e1; cases e2; cases e3; cases e4; cases e5; cases e6
    exact ⟨⟨x, y, z, ls, p, m⟩, rfl, trivial⟩
theorem half_arg {d : DV} (h : ShpV Try.prog 24 d) : ∃ a : HalfL, d = halfD a := by
  obtain ⟨r, rfl, h'⟩ := ShpV.agg (by kernel_rfl) h
  obtain ⟨a, rfl, _⟩ := half_row r h'
  exact ⟨a, rfl⟩
theorem int_arg {d : DV} (h : ShpV Try.prog 3 d) : ∃ x : Int, d = .v (.int .i64 x) ∧ (Lit.int .i64 x).wf = true := ShpV.int_inv Try.underlying3 h
theorem ints_arg {d : DV} (h : ShpV Try.prog 25 d) : ∃ l : List Int, d = .lst 1 (l.map intD) ∧ l.length * 8 ≤ reachBytes ∧ ∀ x, x ∈ l → (Lit.int .i64 x).wf = true := by
  obtain ⟨l, h1, h2, h3⟩ := ShpV.slice_inv Try.underlying25 int_row h
  rw [cells3] at h1
  rw [bytes3] at h2
  exact ⟨l, h1, h2, h3⟩

theorem Try.own : ownKnob Try.prog.godebug = none := by kernel_rfl
theorem Try.laidOut : laidOutB Try.prog = true := by kernel_rfl
end Go.Proofs.Ytopdllcpeaflaaa
