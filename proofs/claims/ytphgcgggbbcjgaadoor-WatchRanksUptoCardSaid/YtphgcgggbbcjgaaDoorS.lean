/- Alarms, states and samples, as they come in; what the rows' lists of variables give. -/
import Derived.Test.YtphgcgggbbcjgaaDoorR
namespace Go.Proofs.YtphgcgggbbcjgaaDoor
open Go.RowKit Go.Dl

theorem tab23 : fldTab Tryd.prog 23 = some [(3, 0, 1), (2, 1, 1), (2, 2, 1), (2, 3, 1)] := by kernel_rfl
theorem tab25 : fldTab Tryd.prog 25 = some [(4, 0, 1), (2, 1, 1), (4, 2, 1), (2, 3, 1), (4, 4, 1), (2, 5, 1)] := by kernel_rfl
theorem tab27 : fldTab Tryd.prog 27 = some [(2, 0, 1), (4, 1, 1), (2, 2, 1)] := by kernel_rfl
theorem cells23 : Tryd.prog.cellsOf 23 = 4 := by kernel_rfl
theorem cells25 : Tryd.prog.cellsOf 25 = 6 := by kernel_rfl
theorem cells27 : Tryd.prog.cellsOf 27 = 3 := by kernel_rfl
theorem bytes27 : Tryd.prog.bytesOf 27 = 24 := by kernel_rfl
theorem sm_row (r : List DV) (h : Shp Tryd.prog 27 r) : ∃ a : Sm, r = smD a ∧ True := by
  obtain ⟨hl, h1, h2, h3, _⟩ := Shp.struct_inv tab27 h
  rw [cells27] at hl
  match r, hl with
  | [a, b, c], _ =>
    obtain ⟨x, e1, _⟩ := Shp.int_inv Tryd.underlying2 h1
    obtain ⟨y, e2⟩ := Shp.bool_inv Tryd.underlying4 h2
    obtain ⟨z, e3, _⟩ := Shp.int_inv Tryd.underlying2 h3
    cases e1; cases e2; cases e3
    exact ⟨⟨x, y, z⟩, rfl, trivial⟩
set_option maxRecDepth 20000 in
theorem sms_arg {d : DV} (h : ShpV Tryd.prog 34 d) : ∃ l : List Sm, d = sms l ∧ l.length * 24 ≤ 140737488355328 := by
  obtain ⟨l, h1, h2, _⟩ := ShpV.slice_inv Tryd.underlying34 sm_row h
  rw [cells27] at h1
  rw [bytes27] at h2
  exact ⟨l, h1, Nat.le_trans h2 (Nat.le_of_ble_eq_true rfl)⟩
set_option maxRecDepth 20000 in
theorem sm_arg {d : DV} (h : ShpV Tryd.prog 27 d) : ∃ a : Sm, d = .agg (smD a) := by
  obtain ⟨ds, rfl, hs⟩ := ShpV.agg (by kernel_rfl) h
  obtain ⟨a, rfl, _⟩ := sm_row ds hs
  exact ⟨a, rfl⟩
set_option maxRecDepth 20000 in
theorem al_arg {d : DV} (h : ShpV Tryd.prog 23 d) : ∃ a : Al, d = .agg (alD a) := by
  obtain ⟨ds, rfl, hs⟩ := ShpV.agg (by kernel_rfl) h
  obtain ⟨hl, h1, h2, h3, h4, _⟩ := Shp.struct_inv tab23 hs
  rw [cells23] at hl
  match ds, hl with
  | [a, b, c, e], _ =>
    obtain ⟨x, e1, _⟩ := Shp.int_inv Tryd.underlying3 h1
    obtain ⟨y, e2, _⟩ := Shp.int_inv Tryd.underlying2 h2
    obtain ⟨z, e3, _⟩ := Shp.int_inv Tryd.underlying2 h3
    obtain ⟨t, e4, _⟩ := Shp.int_inv Tryd.underlying2 h4
    cases e1; cases e2; cases e3; cases e4
    exact ⟨⟨x, y, z, t⟩, rfl⟩
set_option maxRecDepth 20000 in
theorem wt_arg {d : DV} (h : ShpV Tryd.prog 25 d) : ∃ a : Wt, d = .agg (wtD a) := by
  obtain ⟨ds, rfl, hs⟩ := ShpV.agg (by kernel_rfl) h
  obtain ⟨hl, h1, h2, h3, h4, h5, h6, _⟩ := Shp.struct_inv tab25 hs
  rw [cells25] at hl
  match ds, hl with
  | [a, b, c, e, f, g], _ =>
    obtain ⟨x1, e1⟩ := Shp.bool_inv Tryd.underlying4 h1
    obtain ⟨x2, e2, _⟩ := Shp.int_inv Tryd.underlying2 h2
    obtain ⟨x3, e3⟩ := Shp.bool_inv Tryd.underlying4 h3
    obtain ⟨x4, e4, _⟩ := Shp.int_inv Tryd.underlying2 h4
    obtain ⟨x5, e5⟩ := Shp.bool_inv Tryd.underlying4 h5
    obtain ⟨x6, e6, _⟩ := Shp.int_inv Tryd.underlying2 h6
    cases e1; cases e2; cases e3; cases e4; cases e5; cases e6
    exact ⟨⟨x1, x2, x3, x4, x5, x6⟩, rfl⟩
theorem Tryd.own : ownKnob Tryd.prog.godebug = none := by kernel_rfl
theorem Tryd.laidOut : laidOutB Tryd.prog = true := by kernel_rfl
abbrev laidL : List (String × DataW Unit) := Rows.watchTakesRow.laid
theorem gSynT : (Tryd.prog.globals[0]?).map (·.type) = some 68 := by kernel_rfl
theorem gRanT : (Tryd.prog.globals[1]?).map (·.type) = some 68 := by kernel_rfl
theorem gPowT : ∃ t, (Tryd.prog.globals[3]?).map (·.type) = some t ∧ Tryd.prog.underlying t = some (.array 20 98) ∧ Tryd.prog.cellsOf t = 20 := ⟨_, rfl, by kernel_rfl, by kernel_rfl⟩
def starN : String := match (Rows.laid_strconv_ErrRange : DataW Unit) with
  | .iface nm _ => nm
  | _ => powN
theorem row138 (u : TypeId) (h : Tryd.prog.typeName? 3 u = some starN) : u = 138 :=
  typeName_ptr_named (nm := "errors.errorString") (by kernel_rfl) (by kernel_rfl) (by decide) u (h.trans (congrArg some (by kernel_rfl)))
theorem cells140 : Tryd.prog.cellsOf 140 = 1 := by kernel_rfl
theorem cells9 : Tryd.prog.cellsOf 9 = 1 := by kernel_rfl
theorem cells98 : Tryd.prog.cellsOf 98 = 1 := by kernel_rfl
theorem plainL : (laidL.all fun x => x.2.handleName?.isNone) = true := by kernel_rfl
theorem gok_of {W : World} (hL : laidMetH Tryd.prog laidL W) (hsh : W.ShapedOpen Tryd.prog) : Gok W := by
  rw [MakeChecks.laidMetH_plain _ _ _ plainL] at hL
  obtain ⟨t, ht, hu, hc⟩ := gPowT
  have h2 := hL.tail.tail
  have h4 := h2.tail.tail
  have h5 := h4.tail
  obtain ⟨a1, s1, hv1, -, -, -⟩ := laid_sentinel h4 gRan gRanT Tryd.underlying68 row138 Tryd.underlying138 Tryd.underlying140 rfl rfl Tryd.underlying9 cells140 cells9
  obtain ⟨a0, s0, hv0, -, -, -⟩ := laid_sentinel h5 gSyn gSynT Tryd.underlying68 row138 Tryd.underlying138 Tryd.underlying140 rfl rfl Tryd.underlying9 cells140 cells9
  refine ⟨Tryd.laysSplit.s1_3 W hsh, ⟨_, _, hv0⟩, ⟨_, _, hv1⟩, ?_⟩
  exact Lib.tabIs_of_head (g := 3) (t := t) (e := 98) (n := 20) gPow ht hu Tryd.underlying98 cells98 hc h2
end Go.Proofs.YtphgcgggbbcjgaaDoor
