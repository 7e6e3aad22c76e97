/- Filters: a number among numbers, what passes. -/
import Derived.Test.YtkfbaeljcajjbaaGreatDoorPkK

namespace Go.Proofs.YtkfbaeljcajjbaaGreatDoor
open Go.RowKit Go.Dl
attribute [local irreducible] Tri SCall TSem ECall Drawn DFun QSem PSem PCall GCall MCall Round Weak dloadE OW DWl Tells IntKind.wrap Retold ESem
def intD (x : Int) : List DV := [int1 x]
def ints (l : List Int) : DV := .lst 1 (l.map intD)
def idxI (x : Int) : List Int → Nat → Int
  | [], _ => -1
  | y :: t, i => if x = y then i else idxI x t (i + 1)
theorem ixi_yes {l : List Int} {x : Int} {i : Nat} (h : i < l.length) (e : decide (x = l.getD i 0) = true) : idxI x (l.drop i) i = i := by
  rw [drop_at (d := 0) h, idxI, if_pos (of_decide_eq_true e)]
theorem ixi_no {l : List Int} {x : Int} {i : Nat} (h : i < l.length) (e : decide (x = l.getD i 0) = false) : idxI x (l.drop i) i = idxI x (l.drop (i + 1)) (i + 1) := by
  rw [drop_at (d := 0) h, idxI, if_neg (of_decide_eq_false e)]
theorem ixi_end {l : List Int} {x : Int} {i : Nat} (h : l.length ≤ i) : idxI x (l.drop i) i = -1 := by
  rw [List.drop_of_length_le h]; rfl
theorem ixi_mem (x : Int) (l : List Int) : ∀ i : Nat, (0 ≤ idxI x l i ↔ x ∈ l) := by
  induction l with
  | nil => intro i; simp [idxI]
  | cons y l ih =>
    intro i
    unfold idxI
    by_cases h : x = y
    · rw [if_pos h]; simp [h]
    · rw [if_neg h, ih]; simp [h]
def ixiSt (l : List Int) (x : Int) (i : Nat) : St := ⟨0, tmOf [(0, ints l), (1, int1 x), (7, int1 (l.map intD).length), (8, int1 i)], .of [] 0⟩
set_option maxRecDepth 20000 in
theorem index67_D (l : List Int) (x : Int) : DPure Tryz.prog 67 [ints l, int1 x] (int1 (idxI x l 0)) := by
  refine DFun.bound 0 rfl fun ha => ?_
  have ha : l.length ≤ 9223372036854775807 := by simpa [maxLen] using ha
  refine DFun.body Tryz.func67 rfl (by kernel_rfl) ?_
  repeat' (first | with_reducible rfl | ((conv => whnf); first | refine And.intro ?_ ?_ | (intro h; first | with_reducible exact tf_no h | with_reducible exact ft_no h | exact Bool.noConfusion h | with_reducible exact h | (have ht : true = true := h; clear ht h) | skip) | ((with_reducible refine DWl.mark ?_); repeat' (first | refine DWl.cons ?_ ?_ | exact DWl.nil | exact DW.same _ rfl | exact DW.ref _ _ _ rfl | exact DW.arr _ _ _ rfl | exact DW.sub _ _ _ _ rfl | exact DW.nilLst _ | refine DW.aggl ?_ | refine DW.tupl ?_ | refine DW.clol ?_ ?_ | refine DW.int ?_ | refine DW.bool ?_ | refine DW.str ?_)) | ((with_reducible refine Tri.mark ?_); first | refine Tri.loop (ixiSt l x) (fun i => i ≤ l.length ∧ idxI x l 0 = idxI x (l.drop i) i) (fun i => l.length - i) (0) (by kernel_rfl) (Weak.list [] [] ?_ ?_ ?_) ?_ ?_) | ((with_reducible refine Round.mark ?_); first | refine Round.go ((· + 1)) ?_ ?_ (Weak.list [] [] ?_ ?_ ?_)) | ((with_reducible refine ECall.mark ?_); first | refine ECall.only ?_ (fun h => nomatch h) | refine ECall.only ?_ ?_) | ((with_reducible refine Drawn.mark ?_); first | refine Drawn.quiet (by kernel_rfl) ?_) | refine dloadE_map ((0 : Int)) ?_ ?_ | refine dcell_ok rfl ?_ | refine AppC.new ?_))
  all_goals first | (with_reducible refine enters_mark ?_; kernel_rfl) | (with_reducible refine boolT_mark ?_; kernel_rfl) | rfl | trivial | assumption | exact Nat.le_of_ble_eq_true rfl | (show entersB _ _ = true; kernel_rfl) | exact DW.same _ rfl | exact DW.ref _ _ _ rfl | exact DW.arr _ _ _ rfl | refine DW.int ?_ | refine dvb ?_ | refine dvi ?_ | exact OW.cells rfl rfl (DWl.same rfl) | skip
  all_goals repeat' (first | exact OW.cells rfl rfl (DWl.same rfl) | refine OW.cells rfl rfl ?_ | exact DW.nilArr _ rfl | refine DW.clol ?_ ?_ | refine DWl.cons ?_ ?_ | exact DWl.nil | exact DW.same _ rfl | exact DW.ref _ _ _ rfl | exact DW.arr _ _ _ rfl | refine DW.int ?_)
  all_goals try (simp_all; done)
  all_goals try (simp at *; omega)
  · rename_i i hi e0
    exact (hi.2.trans (ixi_yes (lt_of_test e0) h)).symm
  · rename_i i hi e0
    exact hi.2.trans (ixi_no (lt_of_test e0) h)
  · rename_i i hi e0
    exact wsucc (lt_of_test e0) ha
  · rename_i i hi
    exact (hi.2.trans (ixi_end (ge_of_test h))).symm
set_option maxRecDepth 20000 in
theorem contains54_D (l : List Int) (x : Int) : DPure Tryz.prog 54 [ints l, int1 x] (bl (decide (x ∈ l))) := by
  refine DFun.data (DFun.body Tryz.func54 rfl (by kernel_rfl) ?_)
  repeat' (first | with_reducible rfl | ((conv => whnf); first | refine And.intro ?_ ?_ | (intro h; first | with_reducible exact tf_no h | with_reducible exact ft_no h | exact Bool.noConfusion h | with_reducible exact h | (have ht : true = true := h; clear ht h) | skip) | ((with_reducible refine DWl.mark ?_); repeat' (first | refine DWl.cons ?_ ?_ | exact DWl.nil | exact DW.same _ rfl | exact DW.ref _ _ _ rfl | exact DW.arr _ _ _ rfl | exact DW.sub _ _ _ _ rfl | exact DW.nilLst _ | refine DW.aggl ?_ | refine DW.tupl ?_ | refine DW.clol ?_ ?_ | refine DW.int ?_ | refine DW.bool ?_ | refine DW.str ?_)) | ((with_reducible refine SCall.mark ?_); first | refine SCall.data (index67_D l x) rfl rfl ?_ | refine SCall.scal (index67_D l x) rfl rfl ?_) | ((with_reducible refine PCall.mark ?_); first | refine PCall.mk (index67_D l x) rfl rfl ?_) | ((with_reducible refine GCall.mark ?_); first | refine GCall.data (fun _ => index67_D l x) rfl rfl ?_ | refine GCall.scal (fun _ => index67_D l x) rfl rfl ?_) | ((with_reducible refine MCall.mark ?_); first | refine MCall.data (fun _ => index67_D l x) rfl rfl ?_ | refine MCall.plain (PCall.mk (index67_D l x) rfl rfl ?_)) | ((with_reducible refine ECall.mark ?_); first | refine ECall.only ?_ (fun h => nomatch h) | refine ECall.only ?_ ?_) | ((with_reducible refine Drawn.mark ?_); first | refine Drawn.quiet (by kernel_rfl) ?_) | refine dcell_ok rfl ?_ | refine AppC.new ?_))
  all_goals first | (with_reducible refine enters_mark ?_; kernel_rfl) | (with_reducible refine boolT_mark ?_; kernel_rfl) | rfl | trivial | assumption | exact Nat.le_of_ble_eq_true rfl | (show entersB _ _ = true; kernel_rfl) | exact DW.same _ rfl | exact DW.ref _ _ _ rfl | exact DW.arr _ _ _ rfl | refine DW.int ?_ | refine dvb ?_ | refine dvi ?_ | exact OW.cells rfl rfl (DWl.same rfl) | exact Nat.zero_le _ | omega | skip
  all_goals repeat' (first | refine OW.cells rfl rfl ?_ | exact DW.nilArr _ rfl | refine DWl.cons ?_ ?_ | exact DWl.nil | exact DW.same _ rfl | exact DW.ref _ _ _ rfl | exact DW.arr _ _ _ rfl | exact DW.sub _ _ _ _ rfl | exact DW.nilLst _ | refine DW.aggl ?_ | refine DW.tupl ?_ | refine DW.clol ?_ ?_)
  all_goals try ((conv => whnf); with_reducible first | refine Round.mark ?_ | refine Tells.mark ?_ | refine Retold.mark ?_)
  all_goals try first | (show (_ : Bool) = _; simp_all; done) | (show (_ : Int) < _; simp at *; omega) | (show (_ : Int) ≤ _; simp at *; omega) | (show (_ : Nat) < _; simp at *; omega) | (show (_ : Nat) ≤ _; simp at *; omega)
  conv => whnf
  exact Tells.mk (DW.bool (decide_eq_decide.2 (ixi_mem x l 0)))
/-- Nothing asked for, or among what is asked for. -/
def hasI (l : List Int) (x : Int) : Bool := l.isEmpty || decide (x ∈ l)
def hasSt (l : List Int) (x : Int) (i : Nat) : St := ⟨0, tmOf [(0, ints l), (1, int1 x), (5, int1 i)], .of [] 0⟩
theorem has_yes {l : List Int} {x : Int} {i : Nat} (h : i < l.length) (e : decide (l.getD i 0 = x) = true) : hasI l x = true := by
  have e := of_decide_eq_true e
  rw [List.getD_eq_getElem?_getD, List.getElem?_eq_getElem h] at e
  simp only [Option.getD_some] at e
  unfold hasI
  rw [decide_eq_true (by rw [← e]; exact List.getElem_mem h), Bool.or_true]
theorem has_end {l : List Int} {x : Int} {i : Nat} (hp : ∀ k, k < i → k < l.length → l.getD k 0 ≠ x) (h : l.length ≤ i) : hasI l x = decide (((l.map intD).length : Int) = 0) := by
  have h1 : x ∉ l := fun hm => by
    obtain ⟨k, hk, e⟩ := List.mem_iff_getElem.1 hm
    refine hp k (by omega) hk ?_
    rw [List.getD_eq_getElem?_getD, List.getElem?_eq_getElem hk]; exact e
  unfold hasI
  rw [decide_eq_false h1, Bool.or_false]
  cases l with
  | nil => rfl
  | cons a l => simp; omega
theorem has_next {l : List Int} {x : Int} {i : Nat} (hp : ∀ k, k < i → k < l.length → l.getD k 0 ≠ x) (e : decide (l.getD i 0 = x) = false) : ∀ k, k < i + 1 → k < l.length → l.getD k 0 ≠ x := fun k hk hl => by
  rcases Nat.lt_or_ge k i with h | h
  · exact hp k h hl
  · have : k = i := by omega
    subst this
    exact of_decide_eq_false e
set_option maxRecDepth 20000 in
theorem has42_D (l : List Int) (x : Int) : DPure Tryz.prog 42 [ints l, int1 x] (bl (hasI l x)) := by
  refine DFun.bound 0 rfl fun ha => ?_
  have ha : l.length ≤ 9223372036854775807 := by simpa [maxLen] using ha
  refine DFun.body Tryz.func42 rfl (by kernel_rfl) ?_
  repeat' (first | with_reducible rfl | ((conv => whnf); first | refine And.intro ?_ ?_ | (intro h; first | with_reducible exact tf_no h | with_reducible exact ft_no h | exact Bool.noConfusion h | with_reducible exact h | (have ht : true = true := h; clear ht h) | skip) | ((with_reducible refine DWl.mark ?_); repeat' (first | refine DWl.cons ?_ ?_ | exact DWl.nil | exact DW.same _ rfl | exact DW.ref _ _ _ rfl | exact DW.arr _ _ _ rfl | exact DW.sub _ _ _ _ rfl | exact DW.nilLst _ | refine DW.aggl ?_ | refine DW.tupl ?_ | refine DW.clol ?_ ?_ | refine DW.int ?_ | refine DW.bool ?_ | refine DW.str ?_)) | ((with_reducible refine Tri.mark ?_); first | refine Tri.loop (hasSt l x) (fun i => i ≤ l.length ∧ ∀ k, k < i → k < l.length → l.getD k 0 ≠ x) (fun i => l.length - i) (0) (by kernel_rfl) (Weak.list [] [] ?_ ?_ ?_) ?_ ?_) | ((with_reducible refine Round.mark ?_); first | refine Round.go ((· + 1)) ?_ ?_ (Weak.list [] [] ?_ ?_ ?_)) | ((with_reducible refine ECall.mark ?_); first | refine ECall.only ?_ (fun h => nomatch h) | refine ECall.only ?_ ?_) | ((with_reducible refine Drawn.mark ?_); first | refine Drawn.quiet (by kernel_rfl) ?_) | refine dloadE_map ((0 : Int)) ?_ ?_ | refine dcell_ok rfl ?_ | refine AppC.new ?_))
  all_goals first | (with_reducible refine enters_mark ?_; kernel_rfl) | (with_reducible refine boolT_mark ?_; kernel_rfl) | rfl | trivial | assumption | exact Nat.le_of_ble_eq_true rfl | (show entersB _ _ = true; kernel_rfl) | exact DW.same _ rfl | exact DW.ref _ _ _ rfl | exact DW.arr _ _ _ rfl | refine DW.int ?_ | refine dvb ?_ | refine dvi ?_ | exact OW.cells rfl rfl (DWl.same rfl) | skip
  all_goals repeat' (first | exact OW.cells rfl rfl (DWl.same rfl) | refine OW.cells rfl rfl ?_ | exact DW.nilArr _ rfl | refine DW.clol ?_ ?_ | refine DWl.cons ?_ ?_ | exact DWl.nil | exact DW.same _ rfl | exact DW.ref _ _ _ rfl | exact DW.arr _ _ _ rfl | refine DW.int ?_)
  all_goals try (simp_all; done)
  all_goals try (simp at *; omega)
  · rename_i i hi e0
    exact (has_yes (lt_of_test e0) h).symm
  · rename_i i hi e0 e1 k hk hl
    exact has_next hi.2 e1 k hk hl h
  · rename_i i hi e0
    exact wsucc (lt_of_test e0) ha
  · rename_i i hi
    exact (has_end hi.2 (ge_of_test h)).symm
end Go.Proofs.YtkfbaeljcajjbaaGreatDoor

/- What passes a filter. -/
namespace Go.Proofs.YtkfbaeljcajjbaaGreatDoor
open Go.RowKit Go.Dl
attribute [local irreducible] Tri SCall TSem ECall Drawn DFun QSem PSem PCall GCall MCall Round Weak dloadE OW DWl Tells Retold ESem
/-- A filter. -/
structure Fil where
  nodes : List Int
  kinds : List Int
  peers : List Int
  name : ByteArray
  lo : Int
  hi : Int
def filD (f : Fil) : List DV := [ints f.nodes, ints f.kinds, ints f.peers, strV f.name, int1 f.lo, int1 f.hi]
def inTime (f : Fil) (m : Mo) : Bool := (decide (f.lo ≤ m.step) && decide (m.step ≤ f.hi)) && (f.name == ⟨#[]⟩ || f.name == m.name)
def passB (f : Fil) (m : Mo) : Bool := inTime f m && (hasI f.nodes m.node && (hasI f.kinds m.kind && hasI f.peers m.peer))
theorem ask_has (l : List Int) (x : Int) : (bif decide ((0 : Int) < ((l.map intD).length : Nat)) then !decide (x ∈ l) else false) = !hasI l x := by
  cases l with
  | nil => rfl
  | cons a l =>
    have : decide ((0 : Int) < (((a :: l).map intD).length : Nat)) = true := by simp
    rw [this]; simp [hasI]
theorem has_t {l : List Int} {x : Int} (h : (bif decide ((0 : Int) < ((l.map intD).length : Nat)) then !decide (x ∈ l) else false) = true) : hasI l x = false := by
  rw [ask_has] at h; simpa using h
theorem has_f {l : List Int} {x : Int} (h : (bif decide ((0 : Int) < ((l.map intD).length : Nat)) then !decide (x ∈ l) else false) = false) : hasI l x = true := by
  rw [ask_has] at h; simpa using h
set_option maxRecDepth 20000 in
set_option maxHeartbeats 2000000 in
theorem passes40_G (m : Mo) (f : Fil) : DPure Tryz.prog 40 [.agg (moD m), .agg (filD f)] (bl (passB f m)) := by
  refine DFun.data (DFun.body Tryz.func40 rfl (by kernel_rfl) ?_)
  repeat' (first | with_reducible rfl | ((conv => whnf); first | refine And.intro ?_ ?_ | (intro h; first | with_reducible exact tf_no h | with_reducible exact ft_no h | exact Bool.noConfusion h | with_reducible exact h | (have ht : true = true := h; clear ht h) | skip) | ((with_reducible refine DWl.mark ?_); repeat' (first | refine DWl.cons ?_ ?_ | exact DWl.nil | exact DW.same _ rfl | exact DW.ref _ _ _ rfl | exact DW.arr _ _ _ rfl | exact DW.sub _ _ _ _ rfl | exact DW.nilLst _ | refine DW.aggl ?_ | refine DW.tupl ?_ | refine DW.clol ?_ ?_ | refine DW.int ?_ | refine DW.bool ?_ | refine DW.str ?_)) | ((with_reducible refine SCall.mark ?_); first | refine SCall.data (contains54_D f.nodes m.node) rfl rfl ?_ | refine SCall.scal (contains54_D f.nodes m.node) rfl rfl ?_ | refine SCall.data (contains54_D f.kinds m.kind) rfl rfl ?_ | refine SCall.scal (contains54_D f.kinds m.kind) rfl rfl ?_ | refine SCall.data (contains54_D f.peers m.peer) rfl rfl ?_ | refine SCall.scal (contains54_D f.peers m.peer) rfl rfl ?_) | ((with_reducible refine PCall.mark ?_); first | refine PCall.mk (contains54_D f.nodes m.node) rfl rfl ?_ | refine PCall.mk (contains54_D f.kinds m.kind) rfl rfl ?_ | refine PCall.mk (contains54_D f.peers m.peer) rfl rfl ?_) | ((with_reducible refine GCall.mark ?_); first | refine GCall.data (fun _ => contains54_D f.nodes m.node) rfl rfl ?_ | refine GCall.scal (fun _ => contains54_D f.nodes m.node) rfl rfl ?_ | refine GCall.data (fun _ => contains54_D f.kinds m.kind) rfl rfl ?_ | refine GCall.scal (fun _ => contains54_D f.kinds m.kind) rfl rfl ?_ | refine GCall.data (fun _ => contains54_D f.peers m.peer) rfl rfl ?_ | refine GCall.scal (fun _ => contains54_D f.peers m.peer) rfl rfl ?_) | ((with_reducible refine MCall.mark ?_); first | refine MCall.data (fun _ => contains54_D f.nodes m.node) rfl rfl ?_ | refine MCall.plain (PCall.mk (contains54_D f.nodes m.node) rfl rfl ?_) | refine MCall.data (fun _ => contains54_D f.kinds m.kind) rfl rfl ?_ | refine MCall.plain (PCall.mk (contains54_D f.kinds m.kind) rfl rfl ?_) | refine MCall.data (fun _ => contains54_D f.peers m.peer) rfl rfl ?_ | refine MCall.plain (PCall.mk (contains54_D f.peers m.peer) rfl rfl ?_)) | ((with_reducible refine Tri.mark ?_); first | refine Tri.scope (by kernel_rfl) ?_ | refine Tri.rounds 4 (by kernel_rfl) ?_) | ((with_reducible refine ECall.mark ?_); first | refine ECall.only ?_ (fun h => nomatch h) | refine ECall.only ?_ ?_) | ((with_reducible refine Drawn.mark ?_); first | refine Drawn.quiet (by kernel_rfl) ?_) | refine dcell_ok rfl ?_ | refine AppC.new ?_))
  all_goals first | (with_reducible refine enters_mark ?_; kernel_rfl) | (with_reducible refine boolT_mark ?_; kernel_rfl) | rfl | trivial | assumption | exact Nat.le_of_ble_eq_true rfl | (show entersB _ _ = true; kernel_rfl) | exact DW.same _ rfl | exact DW.ref _ _ _ rfl | exact DW.arr _ _ _ rfl | refine DW.int ?_ | refine dvb ?_ | refine dvi ?_ | exact OW.cells rfl rfl (DWl.same rfl) | exact Nat.zero_le _ | omega | skip
  all_goals repeat' (first | refine OW.cells rfl rfl ?_ | exact DW.nilArr _ rfl | refine DWl.cons ?_ ?_ | exact DWl.nil | exact DW.same _ rfl | exact DW.ref _ _ _ rfl | exact DW.arr _ _ _ rfl | exact DW.sub _ _ _ _ rfl | exact DW.nilLst _ | refine DW.aggl ?_ | refine DW.tupl ?_ | refine DW.clol ?_ ?_)
  all_goals try ((conv => whnf); with_reducible first | refine Round.mark ?_ | refine Tells.mark ?_ | refine Retold.mark ?_)
  all_goals try first | (show (_ : Bool) = _; simp_all; done) | (show (_ : Int) < _; simp at *; omega) | (show (_ : Int) ≤ _; simp at *; omega) | (show (_ : Nat) < _; simp at *; omega) | (show (_ : Nat) ≤ _; simp at *; omega)
  · conv => whnf
    refine Tells.mk (DW.bool ?_)
    rw [passB, has_t h]; simp
  · conv => whnf
    refine Tells.mk (DW.bool ?_)
    rw [passB, has_t h]; simp
  · conv => whnf
    refine Tells.mk (DW.bool ?_)
    rw [passB, has_t h]; simp
  · rename_i h1 h2 h3
    conv => whnf
    refine Tells.mk (DW.bool ?_)
    rw [passB, has_f h1, has_f h2, has_f h3]
    simp [inTime]
end Go.Proofs.YtkfbaeljcajjbaaGreatDoor

/- Select: the program's and the document's. -/
namespace Go.Proofs.YtkfbaeljcajjbaaGreatDoor
open Go.RowKit Go.Dl
attribute [local irreducible] Tri SCall TSem ECall Drawn DFun QSem PSem PCall GCall MCall Round Weak dloadE OW DWl Tells IntKind.wrap Retold ESem
def rowM (l : List Mo) : List DV := (l.map moD).flatten
theorem rowM_cons (x : Mo) (l : List Mo) : rowM (x :: l) = moD x ++ rowM l := rfl
theorem rowM_append (l m : List Mo) : rowM (l ++ m) = rowM l ++ rowM m := by simp [rowM]
theorem rowM_len (l : List Mo) : (rowM l).length = l.length * 6 := by
  induction l with
  | nil => rfl
  | cons a l ih => rw [rowM_cons, List.length_append, ih]; simp [moD]; omega
theorem rowM_all (l : List Mo) : (rowM l).all noId1 = true := by
  induction l with
  | nil => rfl
  | cons a l ih => rw [rowM_cons, List.all_append, ih]; rfl
theorem rowM_push (l : List Mo) (x : Mo) : (rowM l).take (l.length * 6) ++ moD x = rowM (l ++ [x]) := by
  rw [List.take_of_length_le (by rw [rowM_len]; exact Nat.le_refl _), rowM_append]; simp [rowM]
theorem rowM_eq (l : List Mo) : rowM l = (l.map moD).flatten := rfl
theorem rowM_zero : rowM [] = [] := rfl
theorem moPush (P : List Mo) (x : Mo) : P.length + 1 = (P ++ [x]).length := by simp
set_option maxRecDepth 20000 in
theorem rm_b1 (P : List Mo) : P.length * Tryz.prog.types[25].size ≤ (rowM P).length := by
  show P.length * 6 ≤ _
  rw [rowM_len]; exact Nat.le_refl _
set_option maxRecDepth 20000 in
theorem rm_b2 {P : List Mo} {n : Nat} (h : P.length < n) (hl : n * 56 ≤ 140737488355328) : (P.length + 1) * Tryz.prog.types[25].bytes ≤ 140737488355328 := by
  show (P.length + 1) * 56 ≤ _
  omega
theorem rm_b3 {P : List Mo} {n : Nat} (h : P.length < n) (hl : n * 56 ≤ 140737488355328) : P.length + 1 ≤ maxLen := by simp only [maxLen]; omega
def selT (f : Fil) (l : List Mo) : List Mo := l.filter (passB f)
def selInv (f : Fil) (l : List Mo) (i : Nat × List Mo) : Prop := i.1 ≤ l.length ∧ i.2 = selT f (l.take i.1)
theorem sel_zero (f : Fil) (l : List Mo) : selInv f l (0, []) := ⟨Nat.zero_le _, rfl⟩
theorem sel_len {f : Fil} {l : List Mo} {i : Nat × List Mo} (h : selInv f l i) (hk : i.1 < l.length) : i.2.length < l.length := by
  rw [h.2]
  refine Nat.lt_of_le_of_lt (List.length_filter_le _ _) ?_
  rw [List.length_take]; omega
theorem sel_yes {f : Fil} {l : List Mo} {i : Nat × List Mo} (h : selInv f l i) (hk : i.1 < l.length) (hp : passB f (l.getD ((i.1 : Nat) : Int).toNat mo0) = true) : selInv f l (i.1 + 1, i.2 ++ [l.getD ((i.1 : Nat) : Int).toNat mo0]) := by
  rw [Int.toNat_natCast] at hp ⊢
  refine ⟨hk, ?_⟩
  show _ = selT f (l.take (i.1 + 1))
  rw [take_succ (d := mo0) hk, selT, List.filter_append, List.filter_cons_of_pos hp, h.2]; rfl
theorem sel_no {f : Fil} {l : List Mo} {i : Nat × List Mo} (h : selInv f l i) (hk : i.1 < l.length) (hp : passB f (l.getD ((i.1 : Nat) : Int).toNat mo0) = false) : selInv f l (i.1 + 1, i.2) := by
  rw [Int.toNat_natCast] at hp
  refine ⟨hk, ?_⟩
  show _ = selT f (l.take (i.1 + 1))
  rw [take_succ (d := mo0) hk, selT, List.filter_append, List.filter_cons_of_neg (by rw [hp]; decide), h.2]; simp [selT]
theorem sel_end {f : Fil} {l : List Mo} {i : Nat × List Mo} (h : selInv f l i) (hk : l.length ≤ i.1) : i.2 = selT f l := by
  rw [h.2, List.take_of_length_le hk]
theorem filD_all (f : Fil) : (filD f).all noId1 = true := rfl
def selSt (f : Fil) (l : List Mo) (i : Nat × List Mo) : St := ⟨0, tmOf [(3, .ref 0 0), (5, .arr 1 i.2.length), (8, mos l), (9, int1 (l.map moD).length), (10, int1 i.1)], .of [(0, ⟨39, 6, filD f⟩), (1, ⟨25, 6, rowM i.2⟩)] 2⟩
theorem sel_lt {f : Fil} {l : List Mo} {i : Nat × List Mo} (h : selInv f l i) : i.1 ≤ l.length := h.1
attribute [local irreducible] passB rowM selT selInv
set_option maxRecDepth 20000 in
theorem select14_G (l : List Mo) (f : Fil) (hl : l.length * 56 ≤ 140737488355328) : DPure Tryz.prog 14 [mos l, .agg (filD f)] (mos (selT f l)) := by
  refine DFun.data (DFun.body Tryz.func14 rfl (by kernel_rfl) ?_)
  repeat' (first | with_reducible rfl | ((conv => whnf); first | refine And.intro ?_ ?_ | (intro h; first | with_reducible exact tf_no h | with_reducible exact ft_no h | exact Bool.noConfusion h | with_reducible exact h | (have ht : true = true := h; clear ht h) | skip) | ((with_reducible refine DWl.mark ?_); repeat' (first | refine DWl.cons ?_ ?_ | exact DWl.nil | exact DW.same _ rfl | exact DW.ref _ _ _ rfl | exact DW.arr _ _ _ rfl | exact DW.sub _ _ _ _ rfl | exact DW.nilLst _ | refine DW.aggl ?_ | refine DW.tupl ?_ | refine DW.clol ?_ ?_ | refine DW.int ?_ | refine DW.bool ?_ | refine DW.str ?_)) | ((with_reducible refine SCall.mark ?_); first | refine SCall.data (passes40_G _ _) rfl rfl ?_ | refine SCall.scal (passes40_G _ _) rfl rfl ?_) | ((with_reducible refine PCall.mark ?_); first | refine PCall.mk (passes40_G _ _) rfl rfl ?_) | ((with_reducible refine GCall.mark ?_); first | refine GCall.data (fun _ => passes40_G _ _) rfl rfl ?_ | refine GCall.scal (fun _ => passes40_G _ _) rfl rfl ?_) | ((with_reducible refine MCall.mark ?_); first | refine MCall.data (fun _ => passes40_G _ _) rfl rfl ?_ | refine MCall.plain (PCall.mk (passes40_G _ _) rfl rfl ?_)) | ((with_reducible refine Tri.mark ?_); first | refine Tri.loop (selSt f l) (selInv f l) (fun i => l.length - i.1) ((0, [])) (by kernel_rfl) (Weak.list [(0, some 0), (1, none)] [] ?_ ?_ ?_) ?_ ?_) | ((with_reducible refine ECall.mark ?_); first | refine ECall.only ?_ (fun h => nomatch h) | refine ECall.only ?_ ?_) | ((with_reducible refine Drawn.mark ?_); first | refine Drawn.quiet (by kernel_rfl) ?_) | refine dloadE_map (mo0) ?_ ?_ | refine dcell_ok rfl ?_ | refine AppC.new ?_))
  all_goals first | (with_reducible refine enters_mark ?_; kernel_rfl) | (with_reducible refine boolT_mark ?_; kernel_rfl) | rfl | trivial | assumption | exact Nat.le_of_ble_eq_true rfl | (show entersB _ _ = true; kernel_rfl) | exact DW.same _ rfl | exact DW.ref _ _ _ rfl | exact DW.arr _ _ _ rfl | refine DW.int ?_ | refine dvb ?_ | refine dvi ?_ | exact OW.cells rfl rfl (DWl.same rfl) | exact Nat.zero_le _ | omega | skip
  all_goals repeat' (first | refine OW.cells rfl rfl ?_ | exact DW.nilArr _ rfl | refine DWl.cons ?_ ?_ | exact DWl.nil | exact DW.same _ rfl | exact DW.ref _ _ _ rfl | exact DW.arr _ _ _ rfl | exact DW.sub _ _ _ _ rfl | exact DW.nilLst _ | refine DW.aggl ?_ | refine DW.tupl ?_ | refine DW.clol ?_ ?_)
  all_goals try ((conv => whnf); with_reducible first | refine Round.mark ?_ | refine Tells.mark ?_ | refine Retold.mark ?_)
  all_goals try first | (show (_ : Bool) = _; simp_all; done) | (show (_ : Int) < _; simp at *; omega) | (show (_ : Int) ≤ _; simp at *; omega) | (show (_ : Nat) < _; simp at *; omega) | (show (_ : Nat) ≤ _; simp at *; omega)
  · conv => whnf
    exact rowM_zero
  · exact sel_zero f l
  · exact rm_b1 _
  · rename_i i hi e1
    exact rm_b2 (sel_len hi (lt_of_test e1)) hl
  · rename_i i hi e1
    exact rm_b3 (sel_len hi (lt_of_test e1)) hl
  · rename_i i hi e1
    have hlt := lt_of_test e1
    have e4 := sel_yes hi hlt h
    refine Round.go (fun _ => (i.1 + 1, i.2 ++ [l.getD ((i.1 : Nat) : Int).toNat mo0])) e4 (by show l.length - (i.1 + 1) < l.length - i.1; omega) (Weak.list [(0, some 0), (1, some 4)] [] (by kernel_rfl) ?_ ?_)
    · repeat' (first | exact wsucc hlt (by omega) | exact DWl.eq (rfl : filD f = filD f) (filD_all f) | exact DWl.eq (rowM_push i.2 (l.getD ((i.1 : Nat) : Int).toNat mo0)) (rowM_all _) | exact moPush i.2 _ | exact DW.same _ rfl | exact DW.ref _ _ _ rfl | exact DW.arr _ _ _ rfl | exact OW.cells rfl rfl (DWl.same rfl) | refine OW.cells rfl rfl ?_ | refine DWl.cons ?_ ?_ | exact DWl.nil | exact DW.nilArr _ rfl | exact DW.nilLst _ | refine DW.clol ?_ ?_ | refine DW.aggl ?_ | refine DW.tupl ?_ | refine DW.int ?_ | refine DW.bool ?_ | refine DW.str ?_ | refine DW.arrE rfl ?_ | ((conv => whnf); first | refine And.intro ?_ ?_ | trivial))
    · repeat' (first | exact wsucc hlt (by omega) | exact DWl.eq (rfl : filD f = filD f) (filD_all f) | exact DWl.eq (rowM_push i.2 (l.getD ((i.1 : Nat) : Int).toNat mo0)) (rowM_all _) | exact moPush i.2 _ | exact DW.same _ rfl | exact DW.ref _ _ _ rfl | exact DW.arr _ _ _ rfl | exact OW.cells rfl rfl (DWl.same rfl) | refine OW.cells rfl rfl ?_ | refine DWl.cons ?_ ?_ | exact DWl.nil | exact DW.nilArr _ rfl | exact DW.nilLst _ | refine DW.clol ?_ ?_ | refine DW.aggl ?_ | refine DW.tupl ?_ | refine DW.int ?_ | refine DW.bool ?_ | refine DW.str ?_ | refine DW.arrE rfl ?_ | ((conv => whnf); first | refine And.intro ?_ ?_ | trivial))
  · rename_i i hi e1
    have hlt := lt_of_test e1
    have e4 := sel_no hi hlt h
    refine Round.go (fun _ => (i.1 + 1, i.2)) e4 (by show l.length - (i.1 + 1) < l.length - i.1; omega) (Weak.list [(0, some 0), (1, some 1)] [] (by kernel_rfl) ?_ ?_)
    · repeat' (first | exact wsucc hlt (by omega) | exact DWl.eq (rfl : filD f = filD f) (filD_all f) | exact DWl.eq (rfl : rowM i.2 = rowM i.2) (rowM_all _) | exact DW.same _ rfl | exact DW.ref _ _ _ rfl | exact DW.arr _ _ _ rfl | exact OW.cells rfl rfl (DWl.same rfl) | refine OW.cells rfl rfl ?_ | refine DWl.cons ?_ ?_ | exact DWl.nil | exact DW.nilArr _ rfl | exact DW.nilLst _ | refine DW.clol ?_ ?_ | refine DW.aggl ?_ | refine DW.tupl ?_ | refine DW.int ?_ | refine DW.bool ?_ | refine DW.str ?_ | refine DW.arrE rfl ?_ | ((conv => whnf); first | refine And.intro ?_ ?_ | trivial))
    · repeat' (first | exact wsucc hlt (by omega) | exact DWl.eq (rfl : filD f = filD f) (filD_all f) | exact DWl.eq (rfl : rowM i.2 = rowM i.2) (rowM_all _) | exact DW.same _ rfl | exact DW.ref _ _ _ rfl | exact DW.arr _ _ _ rfl | exact OW.cells rfl rfl (DWl.same rfl) | refine OW.cells rfl rfl ?_ | refine DWl.cons ?_ ?_ | exact DWl.nil | exact DW.nilArr _ rfl | exact DW.nilLst _ | refine DW.clol ?_ ?_ | refine DW.aggl ?_ | refine DW.tupl ?_ | refine DW.int ?_ | refine DW.bool ?_ | refine DW.str ?_ | refine DW.arrE rfl ?_ | ((conv => whnf); first | refine And.intro ?_ ?_ | trivial))
  · rename_i i hi
    have e4 := sel_end hi (ge_of_test h)
    conv => whnf
    exact Tells.of (r1 := mos i.2) (by rw [e4]) (Tells.mk (DW.pubM rfl rfl rfl rfl mosRow (rowM_eq _)))
end Go.Proofs.YtkfbaeljcajjbaaGreatDoor

/- The document's Select; moments compared. -/
namespace Go.Proofs.YtkfbaeljcajjbaaGreatDoor
open Go.RowKit Go.Dl
attribute [local irreducible] Tri SCall TSem ECall Drawn DFun QSem PSem PCall GCall MCall Round Weak dloadE OW DWl Tells IntKind.wrap Retold ESem
deriving instance DecidableEq for Mo
theorem eqL_len {α : Type} [DecidableEq α] {f : α → List DV} {a b : List α} (h : ((((a.map f).length : Nat) : Int) != ((b.map f).length : Nat)) = true) : false = decide (a = b) := by
  symm
  rw [decide_eq_false_iff_not]
  intro e; subst e; simp at h
theorem eqL_lenF {α : Type} {f : α → List DV} {a b : List α} (h : ((((a.map f).length : Nat) : Int) != ((b.map f).length : Nat)) = false) : a.length = b.length := by simp at h; omega
theorem eqL_at {α : Type} [DecidableEq α] {a b : List α} {d : α} {k : Nat} (h : a.getD k d ≠ b.getD k d) : false = decide (a = b) := by
  symm
  rw [decide_eq_false_iff_not]
  intro e; subst e; exact h rfl
theorem eqL_all {α : Type} [DecidableEq α] {a b : List α} {k : Nat} (hl : a.length = b.length) (hk : k ≤ a.length ∧ a.take k = b.take k) (h : a.length ≤ k) : true = decide (a = b) := by
  symm
  have h4 := hk.2
  rw [List.take_of_length_le h, List.take_of_length_le (by omega)] at h4
  simp [h4]
theorem k25 : eqTK Tryz.prog 25 = some [.int, .int, .int, .int, .str, .int] := by kernel_rfl
theorem mo_ne {x y : Mo} {b : Bool} (h : (!cellsEq (moD x) (moD y)) = b) : b = true ↔ x ≠ y := by
  subst h
  obtain ⟨x1, x2, x3, x4, x5, x6⟩ := x
  obtain ⟨y1, y2, y3, y4, y5, y6⟩ := y
  have e := ba_eq (a := x5) (b := y5)
  simp only [cellsEq, cellEq, moD, int1, strV]
  by_cases h4 : x5 = y5
  · rw [e.2 h4]; simp; grind
  · rw [show (x5 == y5) = false from by simpa using fun h => h4 (e.1 h)]; simp; grind
def sameSt (a b : List Mo) (k : Nat) : St := ⟨0, tmOf [(0, mos a), (1, mos b), (12, int1 (a.map moD).length), (13, int1 k)], .of [] 0⟩
set_option maxRecDepth 20000 in
theorem same15_D (a b : List Mo) : DPure Tryz.prog 15 [mos a, mos b] (bl (decide (a = b))) := by
  refine DFun.bound 0 rfl fun ha => ?_
  have ha : a.length ≤ 9223372036854775807 := by simpa [maxLen] using ha
  refine DFun.body Tryz.func15 rfl (by kernel_rfl) ?_
  repeat' (first | with_reducible rfl | ((conv => whnf); first | refine And.intro ?_ ?_ | (intro h; first | with_reducible exact tf_no h | with_reducible exact ft_no h | exact Bool.noConfusion h | with_reducible exact h | (have ht : true = true := h; clear ht h) | skip) | ((with_reducible refine DWl.mark ?_); repeat' (first | refine DWl.cons ?_ ?_ | exact DWl.nil | exact DW.same _ rfl | exact DW.ref _ _ _ rfl | exact DW.arr _ _ _ rfl | exact DW.sub _ _ _ _ rfl | exact DW.nilLst _ | refine DW.aggl ?_ | refine DW.tupl ?_ | refine DW.clol ?_ ?_ | refine DW.int ?_ | refine DW.bool ?_ | refine DW.str ?_)) | ((with_reducible refine Tri.mark ?_); first | refine Tri.loop (sameSt a b) (fun k => k ≤ a.length ∧ a.take k = b.take k) (fun k => a.length - k) (0) (by kernel_rfl) (Weak.list [] [] ?_ ?_ ?_) ?_ ?_) | ((with_reducible refine Round.mark ?_); first | refine Round.go ((· + 1)) ?_ ?_ (Weak.list [] [] ?_ ?_ ?_)) | ((with_reducible refine ex_mark ?_); first | refine dq_eql k25 ?_ rfl ?_ rfl rfl ?_ | refine dq_neq k25 ?_ rfl ?_ rfl rfl ?_) | ((with_reducible refine ECall.mark ?_); first | refine ECall.only ?_ (fun h => nomatch h) | refine ECall.only ?_ ?_) | ((with_reducible refine Drawn.mark ?_); first | refine Drawn.quiet (by kernel_rfl) ?_) | refine dloadE_map (mo0) ?_ ?_ | refine dcell_ok rfl ?_ | refine AppC.new ?_))
  all_goals first | (with_reducible refine enters_mark ?_; kernel_rfl) | (with_reducible refine boolT_mark ?_; kernel_rfl) | rfl | trivial | assumption | exact Nat.le_of_ble_eq_true rfl | (show entersB _ _ = true; kernel_rfl) | exact DW.same _ rfl | exact DW.ref _ _ _ rfl | exact DW.arr _ _ _ rfl | refine DW.int ?_ | refine dvb ?_ | refine dvi ?_ | exact OW.cells rfl rfl (DWl.same rfl) | skip
  all_goals repeat' (first | exact OW.cells rfl rfl (DWl.same rfl) | refine OW.cells rfl rfl ?_ | exact DW.nilArr _ rfl | refine DW.clol ?_ ?_ | refine DWl.cons ?_ ?_ | exact DWl.nil | exact DW.same _ rfl | exact DW.ref _ _ _ rfl | exact DW.arr _ _ _ rfl | refine DW.int ?_)
  all_goals try (simp_all; done)
  all_goals try (simp at *; omega)
  · exact eqL_len h
  · exact eqL_at ((mo_ne h).1 rfl)
  · rename_i e0 k hk e1
    refine take_succ_eq (d := mo0) (eqL_lenF e0) hk.2 (lt_of_test e1) (Classical.byContradiction fun hc => ?_)
    have := (mo_ne h).2 hc
    cases this
  · rename_i e0 k hk e1
    exact wsucc (lt_of_test e1) ha
  · rename_i e0 k hk
    exact eqL_all (eqL_lenF e0) hk (ge_of_test h)
def sel20St (f : Fil) (l : List Mo) (i : Nat × List Mo) : St := ⟨0, tmOf [(0, mos l), (3, .ref 0 0), (5, .arr 1 i.2.length), (6, int1 i.1)], .of [(0, ⟨39, 6, filD f⟩), (1, ⟨25, 6, rowM i.2⟩)] 2⟩
theorem pass20 (f : Fil) (m : Mo) : (bif bif bif bif bif hasI f.nodes m.node then hasI f.kinds m.kind else false then hasI f.peers m.peer else false then (bif f.name == ⟨#[]⟩ then true else f.name == m.name) else false then decide (f.lo ≤ m.step) else false then decide (m.step ≤ f.hi) else false) = passB f m := by
  unfold passB inTime
  cases hasI f.nodes m.node <;> cases hasI f.kinds m.kind <;> cases hasI f.peers m.peer <;> cases (f.name == ⟨#[]⟩) <;> cases (f.name == m.name) <;> simp
attribute [local irreducible] passB rowM selT selInv hasI
set_option maxRecDepth 20000 in
theorem select20_G (l : List Mo) (f : Fil) (hl : l.length * 56 ≤ 140737488355328) : DPure Tryz.prog 20 [mos l, .agg (filD f)] (mos (selT f l)) := by
  refine DFun.data (DFun.body Tryz.func20 rfl (by kernel_rfl) ?_)
  repeat' (first | with_reducible rfl | ((conv => whnf); first | refine And.intro ?_ ?_ | (intro h; first | with_reducible exact tf_no h | with_reducible exact ft_no h | exact Bool.noConfusion h | with_reducible exact h | (have ht : true = true := h; clear ht h) | skip) | ((with_reducible refine DWl.mark ?_); repeat' (first | refine DWl.cons ?_ ?_ | exact DWl.nil | exact DW.same _ rfl | exact DW.ref _ _ _ rfl | exact DW.arr _ _ _ rfl | exact DW.sub _ _ _ _ rfl | exact DW.nilLst _ | refine DW.aggl ?_ | refine DW.tupl ?_ | refine DW.clol ?_ ?_ | refine DW.int ?_ | refine DW.bool ?_ | refine DW.str ?_)) | ((with_reducible refine SCall.mark ?_); first | refine SCall.data (has42_D f.nodes _) rfl rfl ?_ | refine SCall.scal (has42_D f.nodes _) rfl rfl ?_ | refine SCall.data (has42_D f.kinds _) rfl rfl ?_ | refine SCall.scal (has42_D f.kinds _) rfl rfl ?_ | refine SCall.data (has42_D f.peers _) rfl rfl ?_ | refine SCall.scal (has42_D f.peers _) rfl rfl ?_) | ((with_reducible refine PCall.mark ?_); first | refine PCall.mk (has42_D f.nodes _) rfl rfl ?_ | refine PCall.mk (has42_D f.kinds _) rfl rfl ?_ | refine PCall.mk (has42_D f.peers _) rfl rfl ?_) | ((with_reducible refine GCall.mark ?_); first | refine GCall.data (fun _ => has42_D f.nodes _) rfl rfl ?_ | refine GCall.scal (fun _ => has42_D f.nodes _) rfl rfl ?_ | refine GCall.data (fun _ => has42_D f.kinds _) rfl rfl ?_ | refine GCall.scal (fun _ => has42_D f.kinds _) rfl rfl ?_ | refine GCall.data (fun _ => has42_D f.peers _) rfl rfl ?_ | refine GCall.scal (fun _ => has42_D f.peers _) rfl rfl ?_) | ((with_reducible refine MCall.mark ?_); first | refine MCall.data (fun _ => has42_D f.nodes _) rfl rfl ?_ | refine MCall.plain (PCall.mk (has42_D f.nodes _) rfl rfl ?_) | refine MCall.data (fun _ => has42_D f.kinds _) rfl rfl ?_ | refine MCall.plain (PCall.mk (has42_D f.kinds _) rfl rfl ?_) | refine MCall.data (fun _ => has42_D f.peers _) rfl rfl ?_ | refine MCall.plain (PCall.mk (has42_D f.peers _) rfl rfl ?_)) | ((with_reducible refine Tri.mark ?_); first | refine Tri.loop (sel20St f l) (selInv f l) (fun i => l.length - i.1) ((0, [])) (by kernel_rfl) (Weak.list [(0, some 0), (1, none)] [] ?_ ?_ ?_) ?_ ?_) | ((with_reducible refine ECall.mark ?_); first | refine ECall.only ?_ (fun h => nomatch h) | refine ECall.only ?_ ?_) | ((with_reducible refine Drawn.mark ?_); first | refine Drawn.quiet (by kernel_rfl) ?_) | refine dloadE_map (mo0) ?_ ?_ | refine dcell_ok rfl ?_ | refine AppC.new ?_))
  all_goals first | (with_reducible refine enters_mark ?_; kernel_rfl) | (with_reducible refine boolT_mark ?_; kernel_rfl) | rfl | trivial | assumption | exact Nat.le_of_ble_eq_true rfl | (show entersB _ _ = true; kernel_rfl) | exact DW.same _ rfl | exact DW.ref _ _ _ rfl | exact DW.arr _ _ _ rfl | refine DW.int ?_ | refine dvb ?_ | refine dvi ?_ | exact OW.cells rfl rfl (DWl.same rfl) | exact Nat.zero_le _ | omega | skip
  all_goals repeat' (first | refine OW.cells rfl rfl ?_ | exact DW.nilArr _ rfl | refine DWl.cons ?_ ?_ | exact DWl.nil | exact DW.same _ rfl | exact DW.ref _ _ _ rfl | exact DW.arr _ _ _ rfl | exact DW.sub _ _ _ _ rfl | exact DW.nilLst _ | refine DW.aggl ?_ | refine DW.tupl ?_ | refine DW.clol ?_ ?_)
  all_goals try ((conv => whnf); with_reducible first | refine Round.mark ?_ | refine Tells.mark ?_ | refine Retold.mark ?_)
  all_goals try first | (show (_ : Bool) = _; simp_all; done) | (show (_ : Int) < _; simp at *; omega) | (show (_ : Int) ≤ _; simp at *; omega) | (show (_ : Nat) < _; simp at *; omega) | (show (_ : Nat) ≤ _; simp at *; omega)
  · conv => whnf
    exact rowM_zero
  · exact sel_zero f l
  · exact rm_b1 _
  · rename_i i hi e1
    exact rm_b2 (sel_len hi (lt_of_test e1)) hl
  · rename_i i hi e1
    exact rm_b3 (sel_len hi (lt_of_test e1)) hl
  · rename_i i hi e1
    have hlt := lt_of_test e1
    have e4 := sel_yes hi hlt ((pass20 _ _).symm.trans h)
    refine Round.go (fun _ => (i.1 + 1, i.2 ++ [l.getD ((i.1 : Nat) : Int).toNat mo0])) e4 (by show l.length - (i.1 + 1) < l.length - i.1; omega) (Weak.list [(0, some 0), (1, some 4)] [] (by kernel_rfl) ?_ ?_)
    · repeat' (first | exact wsucc hlt (by omega) | exact DWl.eq (rfl : filD f = filD f) (filD_all f) | exact DWl.eq (rowM_push i.2 (l.getD ((i.1 : Nat) : Int).toNat mo0)) (rowM_all _) | exact moPush i.2 _ | exact DW.same _ rfl | exact DW.ref _ _ _ rfl | exact DW.arr _ _ _ rfl | exact OW.cells rfl rfl (DWl.same rfl) | refine OW.cells rfl rfl ?_ | refine DWl.cons ?_ ?_ | exact DWl.nil | exact DW.nilArr _ rfl | exact DW.nilLst _ | refine DW.clol ?_ ?_ | refine DW.aggl ?_ | refine DW.tupl ?_ | refine DW.int ?_ | refine DW.bool ?_ | refine DW.str ?_ | refine DW.arrE rfl ?_ | ((conv => whnf); first | refine And.intro ?_ ?_ | trivial))
    · repeat' (first | exact wsucc hlt (by omega) | exact DWl.eq (rfl : filD f = filD f) (filD_all f) | exact DWl.eq (rowM_push i.2 (l.getD ((i.1 : Nat) : Int).toNat mo0)) (rowM_all _) | exact moPush i.2 _ | exact DW.same _ rfl | exact DW.ref _ _ _ rfl | exact DW.arr _ _ _ rfl | exact OW.cells rfl rfl (DWl.same rfl) | refine OW.cells rfl rfl ?_ | refine DWl.cons ?_ ?_ | exact DWl.nil | exact DW.nilArr _ rfl | exact DW.nilLst _ | refine DW.clol ?_ ?_ | refine DW.aggl ?_ | refine DW.tupl ?_ | refine DW.int ?_ | refine DW.bool ?_ | refine DW.str ?_ | refine DW.arrE rfl ?_ | ((conv => whnf); first | refine And.intro ?_ ?_ | trivial))
  · rename_i i hi e1
    have hlt := lt_of_test e1
    have e4 := sel_no hi hlt ((pass20 _ _).symm.trans h)
    refine Round.go (fun _ => (i.1 + 1, i.2)) e4 (by show l.length - (i.1 + 1) < l.length - i.1; omega) (Weak.list [(0, some 0), (1, some 1)] [] (by kernel_rfl) ?_ ?_)
    · repeat' (first | exact wsucc hlt (by omega) | exact DWl.eq (rfl : filD f = filD f) (filD_all f) | exact DWl.eq (rfl : rowM i.2 = rowM i.2) (rowM_all _) | exact DW.same _ rfl | exact DW.ref _ _ _ rfl | exact DW.arr _ _ _ rfl | exact OW.cells rfl rfl (DWl.same rfl) | refine OW.cells rfl rfl ?_ | refine DWl.cons ?_ ?_ | exact DWl.nil | exact DW.nilArr _ rfl | exact DW.nilLst _ | refine DW.clol ?_ ?_ | refine DW.aggl ?_ | refine DW.tupl ?_ | refine DW.int ?_ | refine DW.bool ?_ | refine DW.str ?_ | refine DW.arrE rfl ?_ | ((conv => whnf); first | refine And.intro ?_ ?_ | trivial))
    · repeat' (first | exact wsucc hlt (by omega) | exact DWl.eq (rfl : filD f = filD f) (filD_all f) | exact DWl.eq (rfl : rowM i.2 = rowM i.2) (rowM_all _) | exact DW.same _ rfl | exact DW.ref _ _ _ rfl | exact DW.arr _ _ _ rfl | exact OW.cells rfl rfl (DWl.same rfl) | refine OW.cells rfl rfl ?_ | refine DWl.cons ?_ ?_ | exact DWl.nil | exact DW.nilArr _ rfl | exact DW.nilLst _ | refine DW.clol ?_ ?_ | refine DW.aggl ?_ | refine DW.tupl ?_ | refine DW.int ?_ | refine DW.bool ?_ | refine DW.str ?_ | refine DW.arrE rfl ?_ | ((conv => whnf); first | refine And.intro ?_ ?_ | trivial))
  · rename_i i hi
    have e4 := sel_end hi (ge_of_test h)
    conv => whnf
    exact Tells.of (r1 := mos i.2) (by rw [e4]) (Tells.mk (DW.pubM rfl rfl rfl rfl mosRow (rowM_eq _)))
end Go.Proofs.YtkfbaeljcajjbaaGreatDoor

/- Counts: the plain law. -/
namespace Go.Proofs.YtkfbaeljcajjbaaGreatDoor
open Go.RowKit Go.Dl
def inB (m : Mo) : Bool := bif bif bif decide (0 ≤ m.node) then decide (m.node < 16) else false then decide (1 ≤ m.kind) else false then decide (m.kind < 7) else false
theorem inB_iff {m : Mo} : inB m = true ↔ (0 ≤ m.node ∧ m.node < 16) ∧ (1 ≤ m.kind ∧ m.kind < 7) := by
  unfold inB; simp; grind
def upM (M : Nat → Nat → Int) (a k : Nat) : Nat → Nat → Int := fun b j => if b = a then (if j = k then M a k + 1 else M a j) else M b j
def stM (M : Nat → Nat → Int) (m : Mo) : Nat → Nat → Int := if inB m = true then upM M m.node.toNat m.kind.toNat else M
def cntM (l : List Mo) : Nat → Nat → Int := l.foldl stM (fun _ _ => 0)
theorem cnt_app (l : List Mo) (m : Mo) : cntM (l ++ [m]) = stM (cntM l) m := by simp [cntM]
def sumR (f : Nat → Int) : Nat → Int
  | 0 => 0
  | n + 1 => sumR f n + f n
theorem sumR_nn {f : Nat → Int} (h : ∀ k, 0 ≤ f k) : ∀ n, 0 ≤ sumR f n
  | 0 => Int.le_refl _
  | n + 1 => by have := sumR_nn h n; have := h n; show 0 ≤ sumR f n + f n; omega
theorem sumR_le {f : Nat → Int} (h : ∀ k, 0 ≤ f k) {i n : Nat} (hi : i ≤ n) : sumR f i ≤ sumR f n := by
  induction n with
  | zero => have : i = 0 := by omega
            subst this; exact Int.le_refl _
  | succ n ih =>
    rcases Nat.lt_or_ge i (n + 1) with h1 | h1
    · have := ih (by omega); have := h n; show sumR f i ≤ sumR f n + f n; omega
    · have : i = n + 1 := by omega
      subst this; exact Int.le_refl _
theorem sumR_same {f g : Nat → Int} {n : Nat} (h : ∀ k, k < n → f k = g k) : sumR f n = sumR g n := by
  induction n with
  | zero => rfl
  | succ n ih => show sumR f n + f n = sumR g n + g n; rw [ih fun k hk => h k (by omega), h n (by omega)]
theorem sumR_up {f : Nat → Int} {a : Nat} {x : Int} {n : Nat} (ha : a < n) : sumR (fun b => if b = a then x else f b) n = sumR f n - f a + x := by
  induction n with
  | zero => omega
  | succ n ih =>
    show sumR (fun b => if b = a then x else f b) n + (if n = a then x else f n) = sumR f n + f n - f a + x
    rcases Nat.lt_or_ge a n with h | h
    · rw [ih h, if_neg (by omega)]; omega
    · have : a = n := by omega
      subst this
      rw [if_pos rfl, sumR_same (g := f) fun k hk => if_neg (by omega)]; omega
def allM (M : Nat → Nat → Int) : Int := sumR (fun a => sumR (M a) 7) 16
theorem all_up (M : Nat → Nat → Int) {a k : Nat} (ha : a < 16) (hk : k < 7) : allM (upM M a k) = allM M + 1 := by
  unfold allM
  have h1 : ∀ b, sumR (upM M a k b) 7 = if b = a then sumR (M a) 7 + 1 else sumR (M b) 7 := fun b => by
    by_cases h : b = a
    · subst h
      rw [if_pos rfl]
      have : upM M b k b = fun j => if j = k then M b k + 1 else M b j := by funext j; simp [upM]
      rw [this, sumR_up hk]; omega
    · rw [if_neg h]
      have : upM M a k b = M b := by funext j; simp [upM, h]
      rw [this]
  rw [show (fun b => sumR (upM M a k b) 7) = fun b => if b = a then sumR (M a) 7 + 1 else sumR (M b) 7 from funext h1, sumR_up (f := fun b => sumR (M b) 7) ha]; omega
def countN (l : List Mo) : Int := ((l.filter inB).length : Nat)
theorem countN_app (l : List Mo) (m : Mo) : countN (l ++ [m]) = if inB m = true then countN l + 1 else countN l := by
  unfold countN
  rw [List.filter_append, List.length_append]
  by_cases h : inB m = true
  · rw [if_pos h, List.filter_cons_of_pos h]; simp
  · rw [if_neg h, List.filter_cons_of_neg h]; simp
theorem all_count (l : List Mo) : allM (cntM l) = countN l ∧ ∀ a k, 0 ≤ cntM l a k := by
  have key : ∀ n, ∀ l : List Mo, l.length = n → allM (cntM l) = countN l ∧ ∀ a k, 0 ≤ cntM l a k := by
    intro n
    induction n with
    | zero =>
      intro l h
      have : l = [] := List.eq_nil_of_length_eq_zero h
      subst this
      exact ⟨rfl, fun a k => Int.le_refl _⟩
    | succ n ih =>
      intro l h
      have hne : l ≠ [] := fun e => by subst e; cases h
      obtain ⟨l', m, rfl⟩ : ∃ l' m, l = l' ++ [m] := ⟨_, _, (List.dropLast_concat_getLast hne).symm⟩
      obtain ⟨h1, h2⟩ := ih l' (by simpa using h)
      rw [cnt_app, countN_app]
      unfold stM
      by_cases hb : inB m = true
      · rw [if_pos hb, if_pos hb]
        obtain ⟨⟨b1, b2⟩, b3, b4⟩ := inB_iff.1 hb
        refine ⟨by rw [all_up _ (by omega) (by omega), h1], fun a k => ?_⟩
        unfold upM
        split
        · split
          · have := h2 m.node.toNat m.kind.toNat; omega
          · exact h2 _ _
        · exact h2 _ _
      · rw [if_neg hb, if_neg hb]; exact ⟨h1, h2⟩
  exact key _ l rfl
theorem countN_le (l : List Mo) : countN l ≤ (l.length : Nat) := by
  unfold countN
  have := List.length_filter_le inB l
  omega
theorem countN_nn (l : List Mo) : 0 ≤ countN l := by unfold countN; omega
theorem cell_le (l : List Mo) {a k : Nat} (ha : a < 16) (hk : k < 7) : cntM l a k ≤ (l.length : Nat) := by
  obtain ⟨h1, h2⟩ := all_count l
  have h3 := countN_le l
  have h4 : cntM l a k ≤ sumR (cntM l a) 7 := by
    have := sumR_le (h2 a) (i := k + 1) (n := 7) (by omega)
    have h5 := sumR_nn (h2 a) k
    have : sumR (cntM l a) (k + 1) = sumR (cntM l a) k + cntM l a k := rfl
    omega
  have h5 : sumR (cntM l a) 7 ≤ allM (cntM l) := by
    have hn : ∀ b, 0 ≤ sumR (cntM l b) 7 := fun b => sumR_nn (h2 b) 7
    have := sumR_le (f := fun b => sumR (cntM l b) 7) hn (i := a + 1) (n := 16) (by omega)
    have h6 := sumR_nn (f := fun b => sumR (cntM l b) 7) hn a
    have : sumR (fun b => sumR (cntM l b) 7) (a + 1) = sumR (fun b => sumR (cntM l b) 7) a + sumR (cntM l a) 7 := rfl
    unfold allM
    omega
  omega
end Go.Proofs.YtkfbaeljcajjbaaGreatDoor
