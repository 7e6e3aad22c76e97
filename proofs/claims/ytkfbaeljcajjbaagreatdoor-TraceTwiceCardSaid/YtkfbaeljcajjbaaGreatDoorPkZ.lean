/- Moments and texts, as they come in; what the rows' lists of variables give. -/
import Derived.Test.YtkfbaeljcajjbaaGreatDoorPkA
import Derived.Test.YtkfbaeljcajjbaaGreatDoorDl26

namespace Go.Proofs.YtkfbaeljcajjbaaGreatDoor
open Go.RowKit Go.Dl

theorem tab25 : fldTab Tryz.prog 25 = some [(3, 0, 1), (3, 1, 1), (23, 2, 4)] := by kernel_rfl
theorem tab23 : fldTab Tryz.prog 23 = some [(3, 0, 1), (3, 1, 1), (9, 2, 1), (2, 3, 1)] := by kernel_rfl
theorem cells25 : Tryz.prog.cellsOf 25 = 6 := by kernel_rfl
theorem bytes25 : Tryz.prog.bytesOf 25 = 56 := by kernel_rfl
theorem cells23 : Tryz.prog.cellsOf 23 = 4 := by kernel_rfl
theorem wf_i64 {x : Int} (h : (Lit.int .i64 x).wf = true) : I64 x := by
  simp [Lit.wf, IntKind.min, IntKind.max, IntKind.bits, IntKind.signed] at h
  unfold I64
  omega
theorem mo_row (r : List DV) (h : Shp Tryz.prog 25 r) : ∃ a : Mo, r = moD a ∧ (I6 a ∧ a.name.size ≤ reachBytes) ∧ I64 a.node ∧ I64 a.kind ∧ I64 a.peer := by
  obtain ⟨hl, h1, h2, h3, _⟩ := Shp.struct_inv tab25 h
  rw [cells25] at hl
  match r, hl with
  | [a, b, c, d, e, f], _ =>
    obtain ⟨x1, e1, w1⟩ := Shp.int_inv Tryz.underlying3 h1
    obtain ⟨x2, e2, w2⟩ := Shp.int_inv Tryz.underlying3 h2
    obtain ⟨hl', g1, g2, g3, g4, _⟩ := Shp.struct_inv tab23 h3
    obtain ⟨x3, e3, w3⟩ := Shp.int_inv Tryz.underlying3 g1
    obtain ⟨x4, e4, w4⟩ := Shp.int_inv Tryz.underlying3 g2
    obtain ⟨x5, e5, w5⟩ := Shp.str_inv Tryz.underlying9 g3
    obtain ⟨x6, e6, w6⟩ := Shp.int_inv Tryz.underlying2 g4
    cases e1; cases e2; cases e3; cases e4; cases e5; cases e6
    exact ⟨⟨x1, x2, x3, x4, x5, x6⟩, rfl, ⟨⟨wf_i64 w1, wf_i64 w6⟩, w5⟩, wf_i64 w2, wf_i64 w3, wf_i64 w4⟩
theorem isS25 : isStructT Tryz.prog 25 = true := by kernel_rfl
set_option maxRecDepth 20000 in
theorem mo_arg {d : DV} (h : ShpV Tryz.prog 25 d) : ∃ a : Mo, d = .agg (moD a) ∧ I6 a ∧ a.name.size ≤ 9223372036854775807 := by
  obtain ⟨ds, rfl, h2⟩ := ShpV.agg isS25 h
  obtain ⟨a, rfl, ⟨h3, h4⟩, _⟩ := mo_row ds h2
  exact ⟨a, rfl, h3, Nat.le_trans h4 (Nat.le_of_ble_eq_true rfl)⟩
set_option maxRecDepth 20000 in
theorem mos_arg {d : DV} (h : ShpV Tryz.prog 36 d) : ∃ l : List Mo, d = .lst 6 (l.map moD) ∧ l.length * 56 ≤ 140737488355328 ∧ ∀ a ∈ l, (I6 a ∧ a.name.size ≤ reachBytes) ∧ I64 a.node ∧ I64 a.kind ∧ I64 a.peer := by
  obtain ⟨l, h1, h2, h3⟩ := ShpV.slice_inv Tryz.underlying36 mo_row h
  rw [cells25] at h1
  rw [bytes25] at h2
  exact ⟨l, h1, Nat.le_trans h2 (Nat.le_of_ble_eq_true rfl), h3⟩
theorem Tryz.own : ownKnob Tryz.prog.godebug = none := by kernel_rfl
theorem Tryz.laidOut : laidOutB Tryz.prog = true := by kernel_rfl
abbrev laidL : List (String × DataW Unit) := Rows.traceLinesRow.laid
theorem gSynT : (Tryz.prog.globals[1]?).map (·.type) = some 86 := by kernel_rfl
theorem gRanT : (Tryz.prog.globals[2]?).map (·.type) = some 86 := by kernel_rfl
theorem gPowT : ∃ t, (Tryz.prog.globals[3]?).map (·.type) = some t ∧ Tryz.prog.underlying t = some (.array 20 90) ∧ Tryz.prog.cellsOf t = 20 := ⟨_, rfl, by kernel_rfl, by kernel_rfl⟩
def starN : String := match (Rows.laid_strconv_ErrRange : DataW Unit) with
  | .iface nm _ => nm
  | _ => powN
theorem row167 (u : TypeId) (h : Tryz.prog.typeName? 3 u = some starN) : u = 167 :=
  typeName_ptr_named (nm := "errors.errorString") (by kernel_rfl) (by kernel_rfl) (by decide) u (h.trans (congrArg some (by kernel_rfl)))
theorem cells169 : Tryz.prog.cellsOf 169 = 1 := by kernel_rfl
theorem cells9 : Tryz.prog.cellsOf 9 = 1 := by kernel_rfl
theorem cells90 : Tryz.prog.cellsOf 90 = 1 := by kernel_rfl
theorem plainL : (laidL.all fun x => x.2.handleName?.isNone) = true := by kernel_rfl
theorem gok_of {W : World} (hL : laidMetH Tryz.prog laidL W) (hsh : W.ShapedOpen Tryz.prog) : Gok W := by
  rw [MakeChecks.laidMetH_plain _ _ _ plainL] at hL
  obtain ⟨t, ht, hu, hc⟩ := gPowT
  have h2 := hL.tail.tail
  have h4 := h2.tail.tail
  have h5 := h4.tail
  obtain ⟨a1, s1, hv1, -, -, -⟩ := laid_sentinel h4 gRan gRanT Tryz.underlying86 row167 Tryz.underlying167 Tryz.underlying169 rfl rfl Tryz.underlying9 cells169 cells9
  obtain ⟨a0, s0, hv0, -, -, -⟩ := laid_sentinel h5 gSyn gSynT Tryz.underlying86 row167 Tryz.underlying167 Tryz.underlying169 rfl rfl Tryz.underlying9 cells169 cells9
  refine ⟨Tryz.laysSplit.s1_3 W hsh, ⟨_, _, hv0⟩, ⟨_, _, hv1⟩, ?_⟩
  exact Lib.tabIs_of_head (g := 3) (t := t) (e := 90) (n := 20) gPow ht hu Tryz.underlying90 cells90 hc h2
end Go.Proofs.YtkfbaeljcajjbaaGreatDoor


