/- Samples played, by the program and the document; notes compared. -/
import Derived.Test.YtphgcgggbbcjgaaDoorI
namespace Go.Proofs.YtphgcgggbbcjgaaDoor
open Go.RowKit Go.Dl
attribute [local irreducible] Tri SCall DFun QSem PSem PCall GCall MCall Round Weak dloadE OW DWl Tells IntKind.wrap Retold ESem

abbrev Nt : Type := Int × Int
def ntD (x : Nt) : List DV := [int1 x.1, int1 x.2]
def nts (l : List Nt) : DV := .lst 2 (l.map ntD)
def sms (l : List Sm) : DV := .lst 3 (l.map smD)
def nt0 : Nt := (0, 0)
def sm0 : Sm := ⟨0, false, 0⟩
def wt0 : Wt := ⟨false, 0, false, 0, false, 0⟩
/-- One sample played. -/
def play1 (a : Al) (x : Wt × List Nt) (m : Sm) : Wt × List Nt :=
  if sampleB m = true then ((takeT a x.1 m).1, if (takeT a x.1 m).2 = 0 then x.2 else x.2 ++ [(m.tick, (takeT a x.1 m).2)]) else x
def playK (a : Al) (l : List Sm) (k : Nat) : Wt × List Nt := (l.take k).foldl (play1 a) (wt0, [])
def playT (a : Al) (l : List Sm) : Wt × List Nt := playK a l l.length
theorem eqL_len {α : Type} [DecidableEq α] {f : α → List DV} {a b : List α} (h : ((((a.map f).length : Nat) : Int) != ((b.map f).length : Nat)) = true) : false = decide (a = b) := by
  symm
  rw [decide_eq_false_iff_not]
  intro e; subst e; simp at h
theorem eqL_lenF {α : Type} {f : α → List DV} {a b : List α} (h : ((((a.map f).length : Nat) : Int) != ((b.map f).length : Nat)) = false) : a.length = b.length := by simp at h; omega
theorem eqL_at {α : Type} [DecidableEq α] {a b : List α} {d : α} {k : Nat} (h : a.getD k d ≠ b.getD k d) : false = decide (a = b) := by
  symm
  rw [decide_eq_false_iff_not]
  intro e; subst e; exact h rfl
theorem eqL_all {α : Type} [DecidableEq α] {a b : List α} {k : Nat} (hl : a.length = b.length) (hk : k ≤ a.length ∧ a.take k = b.take k) (h : a.length ≤ k) : true = decide (a = b) := by
  symm
  have h4 := hk.2
  rw [List.take_of_length_le h, List.take_of_length_le (by omega)] at h4
  simp [h4]
theorem take_succ_eq {α : Type} {a b : List α} {d : α} {k : Nat} (hl : a.length = b.length) (h : a.take k = b.take k) (hk : k < a.length) (e : a.getD k d = b.getD k d) : a.take (k + 1) = b.take (k + 1) := by
  have h1 : a[k]? = b[k]? := by
    simp only [List.getD_eq_getElem?_getD, List.getElem?_eq_getElem hk, List.getElem?_eq_getElem (show k < b.length by omega), Option.getD_some] at e ⊢
    rw [e]
  rw [List.take_add_one, List.take_add_one, h, h1]
theorem wrapN {k : Nat} (h : k < 9223372036854775808) : IntKind.i64.wrap (k : Int) = k := wrapI (by omega) (by omega)
theorem wsucc {k n : Nat} (h : k < n) (hn : n ≤ 9223372036854775807) : IntKind.i64.wrap ((k : Int) + 1) = ((k + 1 : Nat) : Int) := by
  have := wrapN (k := k + 1) (by omega)
  simpa using this
theorem lt_of_test {k : Nat} {α : Type} {f : α → List DV} {l : List α} (h : decide ((k : Int) < ((l.map f).length : Nat)) = true) : k < l.length := by simpa using h
theorem ge_of_test {k : Nat} {α : Type} {f : α → List DV} {l : List α} (h : decide ((k : Int) < ((l.map f).length : Nat)) = false) : l.length ≤ k := by simpa using h
theorem lt_int {k n : Nat} (h : decide ((k : Int) < (n : Int)) = true) : k < n := by simpa using h
theorem ge_int {k n : Nat} (h : decide ((k : Int) < (n : Int)) = false) : n ≤ k := by simpa using h
theorem nt_ne {x y : Nt} {b : Bool} (h : (!cellsEq [int1 x.1, int1 x.2] [int1 y.1, int1 y.2]) = b) : b = true ↔ x ≠ y := by
  subst h
  cases x; cases y
  simp [cellsEq, cellEq, int1]
  grind
theorem take_succ {α : Type} {a : List α} {d : α} {k : Nat} (hk : k < a.length) : a.take (k + 1) = a.take k ++ [a.getD k d] := by
  rw [List.take_add_one, List.getElem?_eq_getElem hk, List.getD_eq_getElem?_getD, List.getElem?_eq_getElem hk]; rfl
theorem play_succ {a : Al} {l : List Sm} {k : Nat} (h : k < l.length) : playK a l (k + 1) = play1 a (playK a l k) (l.getD k sm0) := by
  unfold playK
  rw [take_succ (d := sm0) h, List.foldl_append]; rfl
theorem play_len (a : Al) (l : List Sm) (k : Nat) : (playK a l k).2.length ≤ k := by
  induction k with
  | zero => simp [playK]
  | succ k ih =>
    rcases Nat.lt_or_ge k l.length with h | h
    · rw [play_succ h]
      unfold play1
      split
      · simp only; split
        · omega
        · rw [List.length_append, List.length_singleton]; omega
      · omega
    · have : playK a l (k + 1) = playK a l k := by unfold playK; rw [List.take_of_length_le h, List.take_of_length_le (by omega)]
      rw [this]; omega
theorem k58 : eqTK Tryd.prog 58 = some [.int, .int] := by kernel_rfl
def ntSt (a b : List Nt) (k : Nat) : St := ⟨0, tmOf [(0, nts a), (1, nts b), (5, int1 k)], .of [] 0⟩
set_option maxRecDepth 20000 in
theorem notes18_D (a b : List Nt) : DPure Tryd.prog 18 [nts a, nts b] (bl (decide (a = b))) := by
  refine DFun.bound 0 rfl fun ha => ?_
  have ha : a.length ≤ 9223372036854775807 := by simpa [maxLen] using ha
  refine DFun.body Tryd.func18 rfl (by kernel_rfl) ?_
  repeat' (first | with_reducible rfl | ((conv => whnf); first | refine And.intro ?_ ?_ | (intro h; first | exact Bool.noConfusion h | with_reducible exact h | (have ht : true = true := h; clear ht h) | skip) | ((with_reducible refine DWl.mark ?_); repeat' (first | refine DWl.cons ?_ ?_ | exact DWl.nil | exact DW.same _ rfl | exact DW.ref _ _ _ rfl | exact DW.arr _ _ _ rfl | exact DW.sub _ _ _ _ rfl | exact DW.nilLst _ | refine DW.aggl ?_ | refine DW.tupl ?_ | refine DW.clol ?_ ?_ | refine DW.int ?_ | refine DW.bool ?_ | refine DW.str ?_)) | ((with_reducible refine Tri.mark ?_); first | refine Tri.loop (ntSt a b) (fun k => k ≤ a.length ∧ a.take k = b.take k) (fun k => a.length - k) (0) (by kernel_rfl) (Weak.list [] [] ?_ ?_ ?_) ?_ ?_) | ((with_reducible refine Round.mark ?_); first | refine Round.go ((· + 1)) ?_ ?_ (Weak.list [] [] ?_ ?_ ?_)) | ((with_reducible refine ex_mark ?_); first | refine dq_eql k58 ?_ rfl ?_ rfl rfl ?_ | refine dq_neq k58 ?_ rfl ?_ rfl rfl ?_) | refine dloadE_map (nt0) ?_ ?_ | refine dcell_ok rfl ?_ | refine AppC.new ?_))
  all_goals first | (with_reducible refine enters_mark ?_; kernel_rfl) | (with_reducible refine boolT_mark ?_; kernel_rfl) | rfl | trivial | assumption | exact Nat.le_of_ble_eq_true rfl | (show entersB _ _ = true; kernel_rfl) | exact DW.same _ rfl | exact DW.ref _ _ _ rfl | exact DW.arr _ _ _ rfl | refine DW.int ?_ | refine dvb ?_ | refine dvi ?_ | exact OW.cells rfl rfl (DWl.same rfl) | skip
  all_goals repeat' (first | exact OW.cells rfl rfl (DWl.same rfl) | refine OW.cells rfl rfl ?_ | exact DW.nilArr _ rfl | refine DW.clol ?_ ?_ | refine DWl.cons ?_ ?_ | exact DWl.nil | exact DW.same _ rfl | exact DW.ref _ _ _ rfl | exact DW.arr _ _ _ rfl | refine DW.int ?_)
  all_goals try (simp_all; done)
  all_goals try (simp at *; omega)
  · exact eqL_len h
  · exact eqL_at ((nt_ne h).1 rfl)
  · rename_i e0 k hk e1
    refine take_succ_eq (d := nt0) (eqL_lenF e0) hk.2 (lt_of_test e1) (Classical.byContradiction fun hc => ?_)
    have := (nt_ne h).2 hc
    cases this
  · rename_i e0 k hk e1
    exact wsucc (lt_of_test e1) ha
  · rename_i e0 k hk
    exact eqL_all (eqL_lenF e0) hk (ge_of_test h)
end Go.Proofs.YtphgcgggbbcjgaaDoor
