/- Half-edges that fit. -/
import Derived.Test.YtopdllcpeaflaaaB
namespace Go.Proofs.Ytopdllcpeaflaaa
open Go.RowKit Go.Dl
attribute [local irreducible] Tri SCall DFun QSem PCall GCall MCall Round Weak dloadE OW DWl

structure LineL where
  name : ByteArray
  ver : Int
  wr : Int
  fl : Int
  deriving DecidableEq
structure HalfL where
  peer : Int
  boot : Int
  life : Int
  lines : List LineL
  pend : Bool
  miss : Int
  deriving DecidableEq
def line0 : LineL := ⟨⟨#[]⟩, 0, 0, 0⟩
def half0 : HalfL := ⟨0, 0, 0, [], false, 0⟩

def lineD (l : LineL) : List DV := [.v (.string l.name), .v (.int .i64 l.ver), .v (.int .i64 l.wr), .v (.int .i64 l.fl)]
def halfC (h : HalfL) : List DV := [.v (.int .i64 h.peer), .v (.int .i64 h.boot), .v (.int .i64 h.life), .lst 4 (h.lines.map lineD), .v (.bool h.pend), .v (.int .i64 h.miss)]
def halfD (h : HalfL) : DV := .agg (halfC h)

def lineOk (id : Int) (h : HalfL) (i : Nat) : Bool :=
  let l := h.lines.getD i line0
  nameB l.name && (i == 0 || Op.bytesLess (h.lines.getD (i - 1) line0).name.toList l.name.toList) && fit9 l.ver l.wr l.fl id h.peer && !(l.ver == 0 && l.wr == 0 && l.fl == 0)
def fitH (id : Int) (h : HalfL) : Bool :=
  nodeB id && nodeB h.peer && !(h.peer == id) && decide (1 ≤ h.boot) && decide (h.boot ≤ 1099511627776) && decide (0 ≤ h.life) && decide (h.life ≤ 1099511627776) && decide (h.lines.length ≤ 8) && decide (0 ≤ h.miss) && decide (h.miss < 3) && (h.pend || h.miss == 0)
def fitB (id : Int) (h : HalfL) : Bool := fitH id h && decide (∀ i, i < h.lines.length → lineOk id h i = true)

def fitSt (id : Int) (h : HalfL) (k : Nat) : St := ⟨0, tmOf [(0, .v (.int .i64 id)), (3, .ref 0 0), (5, .v (.int .i64 k))], .of [(0, ⟨24, 6, halfC h⟩)] 1⟩
theorem wrapPred {k : Nat} (h1 : 0 < k) (h : k < 9223372036854775808) : IntKind.i64.wrap ((k : Int) - 1) = ((k - 1 : Nat) : Int) := by
  have : (k : Int) - 1 = ((k - 1 : Nat) : Int) := by omega
  rw [this]; exact wrap64 (by omega)

theorem lineOk_eq (id : Int) (hf : HalfL) (k : Nat) (hk : k < 9223372036854775808) :
    (bif (bif (bif !nameB (hf.lines.getD k line0).name then true else (bif decide ((0 : Int) < (k : Int)) then !Op.bytesLess (hf.lines.getD (IntKind.i64.wrap ((k : Int) - 1)).toNat line0).name.toList (hf.lines.getD k line0).name.toList else false))
      then true else !fit9 (hf.lines.getD k line0).ver (hf.lines.getD k line0).wr (hf.lines.getD k line0).fl id hf.peer) then true else
      cellsEq [DV.v (Value.int IntKind.i64 (hf.lines.getD k line0).ver), DV.v (Value.int IntKind.i64 (hf.lines.getD k line0).wr), DV.v (Value.int IntKind.i64 (hf.lines.getD k line0).fl)] [DV.v (Value.int IntKind.i64 0), DV.v (Value.int IntKind.i64 0), DV.v (Value.int IntKind.i64 0)]) = !lineOk id hf k := by
  rcases Nat.eq_zero_or_pos k with rfl | hp
  · simp [lineOk, cellsEq, cellEq]
    grind
  · rw [wrapPred hp hk]
    simp [lineOk, cellsEq, cellEq]
    grind

theorem fit_D (id : Int) (hf : HalfL) : DPure Try.prog 44 [.v (.int .i64 id), halfD hf] (.v (.bool (fitB id hf))) := by
  refine DFun.body Try.func44 rfl (by kernel_rfl) ?_
  repeat' (first | with_reducible rfl | ((conv => whnf); first | refine And.intro ?_ ?_ | (intro h; first | exact Bool.noConfusion h | with_reducible exact h | skip) | ((with_reducible refine DWl.mark ?_); repeat' (first | refine DWl.cons ?_ ?_ | exact DWl.nil | exact DW.same _ rfl | exact DW.ref _ _ _ rfl | exact DW.arr _ _ _ rfl | exact DW.sub _ _ _ _ rfl | exact DW.nilLst _ | refine DW.aggl ?_ | refine DW.tupl ?_ | refine DW.clol ?_ ?_ | refine DW.int ?_ | refine DW.bool ?_ | refine DW.str ?_)) | ((with_reducible refine SCall.mark ?_); first | refine SCall.data (node_D _) rfl rfl ?_ | refine SCall.scal (node_D _) rfl rfl ?_ | refine SCall.data (name_D _) rfl rfl ?_ | refine SCall.scal (name_D _) rfl rfl ?_ | refine SCall.data (fit9_D _ _ _ _ _) rfl rfl ?_ | refine SCall.scal (fit9_D _ _ _ _ _) rfl rfl ?_) | ((with_reducible refine PCall.mark ?_); first | refine PCall.mk (node_D _) rfl rfl ?_ | refine PCall.mk (name_D _) rfl rfl ?_ | refine PCall.mk (fit9_D _ _ _ _ _) rfl rfl ?_) | ((with_reducible refine GCall.mark ?_); first | refine GCall.data (fun _ => node_D _) rfl rfl ?_ | refine GCall.scal (fun _ => node_D _) rfl rfl ?_ | refine GCall.data (fun _ => name_D _) rfl rfl ?_ | refine GCall.scal (fun _ => name_D _) rfl rfl ?_ | refine GCall.data (fun _ => fit9_D _ _ _ _ _) rfl rfl ?_ | refine GCall.scal (fun _ => fit9_D _ _ _ _ _) rfl rfl ?_) | ((with_reducible refine MCall.mark ?_); first | refine MCall.data (fun _ => node_D _) rfl rfl ?_ | refine MCall.plain (PCall.mk (node_D _) rfl rfl ?_) | refine MCall.data (fun _ => name_D _) rfl rfl ?_ | refine MCall.plain (PCall.mk (name_D _) rfl rfl ?_) | refine MCall.data (fun _ => fit9_D _ _ _ _ _) rfl rfl ?_ | refine MCall.plain (PCall.mk (fit9_D _ _ _ _ _) rfl rfl ?_)) | ((with_reducible refine Tri.mark ?_); first | refine Tri.loop (fitSt id hf) (fun k => k ≤ hf.lines.length ∧ ∀ j, j < k → lineOk id hf j = true) (fun k => hf.lines.length - k) (0) (by kernel_rfl) (Weak.list [(0, some 0)] [] ?_ ?_ ?_) ?_ ?_) | ((with_reducible refine Round.mark ?_); first | refine Round.go ((· + 1)) ?_ ?_ (Weak.list [(0, some 0)] [] ?_ ?_ ?_)) | ((with_reducible refine ex_mark ?_); first | refine dq_eql k39 ?_ rfl ?_ rfl rfl ?_ | refine dq_neq k39 ?_ rfl ?_ rfl rfl ?_) | refine dloadE_map (line0) ?_ ?_ | refine dcell_ok rfl ?_ | refine AppC.new ?_))
  all_goals first | (with_reducible refine enters_mark ?_; kernel_rfl) | (with_reducible refine boolT_mark ?_; kernel_rfl) | rfl | trivial | assumption | exact Nat.le_of_ble_eq_true rfl | (show entersB _ _ = true; kernel_rfl) | exact DW.same _ rfl | exact DW.ref _ _ _ rfl | exact DW.arr _ _ _ rfl | refine DW.int ?_ | refine dvb ?_ | refine dvi ?_ | exact OW.cells rfl rfl (DWl.same rfl) | skip
  all_goals try (simp_all; done)
  all_goals try (simp at *; omega)
  · simp [fitB, fitH] at *; grind
  · rename_i e0 e1 k hk e2 e3 e4
    simp at e1 e2 h
    rw [wrapPred (by omega) (by omega)]; omega
  · rename_i e0 e1 k hk e2 e3 e4
    simp at e1 e2 h
    rw [wrapPred (by omega) (by omega)]; simp; omega
  · rename_i e0 e1 k hk e2 e3 e4
    simp at e1 e2 h
    rw [wrapPred (by omega) (by omega)]; simp; omega
  · rename_i e0 e1 k hk e2 e3 e4
    simp at e1 e2
    have h2 := (lineOk_eq id hf k (by omega)).symm.trans h
    simp at h2
    symm
    simp only [fitB, Bool.and_eq_false_iff, decide_eq_false_iff_not]
    refine .inr fun hh => ?_
    rw [hh k e2] at h2
    cases h2
  · rename_i e0 e1 k hk e2 e3 e4 e5 j
    simp at e1 e2
    rcases Nat.lt_or_ge j k with hj | hj
    · exact hk.2 j hj
    · have : j = k := by omega
      subst this
      have h2 := (lineOk_eq id hf j (by omega)).symm.trans e5
      simpa using h2
  · rename_i e0 e1 k hk e2 e3 e4
    simp at e1 e2
    have := wrap64 (k := k + 1) (by omega)
    simpa using this
  · rename_i e0 e1 k hk
    simp at e1 h
    have h2 : ∀ i, i < hf.lines.length → lineOk id hf i = true := fun i hi => hk.2 i (by omega)
    simp [fitB, fitH, h2]
    grind
end Go.Proofs.Ytopdllcpeaflaaa
