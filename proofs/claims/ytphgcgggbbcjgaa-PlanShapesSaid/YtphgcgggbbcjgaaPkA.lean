/- Pairs of nodes, and how many a node is in. -/
import Derived.Test.YtphgcgggbbcjgaaRows
import Derived.Test.YtphgcgggbbcjgaaDl23
import Derived.KernelRfl
import Derived.Test.YtphgcgggbbcjgaaDl24
import Derived.MapKept

namespace Go.Proofs.Ytphgcgggbbcjgaa
open Go.RowKit Go.Dl
instance : Inhabited GlobS := ⟨GlobS.none⟩
attribute [local irreducible] Tri SCall DFun QSem PCall GCall MCall Round Weak dloadE OW DWl Tells IntKind.wrap Retold ESem

abbrev Lk : Type := Int × Int
def intD (x : Int) : List DV := [.v (.int .i64 x)]
def ints (l : List Int) : DV := .lst 1 (l.map intD)
def int1 (x : Int) : DV := .v (.int .i64 x)
def linkD (x : Lk) : List DV := [.v (.int .i64 x.1), .v (.int .i64 x.2)]
def links (l : List Lk) : DV := .lst 2 (l.map linkD)
def lk0 : Lk := (0, 0)

theorem wrap64 {k : Nat} (h : k < 9223372036854775808) : IntKind.i64.wrap (k : Int) = k := by
  simp [IntKind.wrap, IntKind.bits, IntKind.signed]; omega
theorem wrapI {x : Int} (h : -9223372036854775808 ≤ x) (h2 : x < 9223372036854775808) : IntKind.i64.wrap x = x := by
  simp [IntKind.wrap, IntKind.bits, IntKind.signed]; omega
theorem take_succ_eq {α : Type} {a b : List α} {d : α} {k : Nat} (hl : a.length = b.length) (h : a.take k = b.take k) (hk : k < a.length) (e : a.getD k d = b.getD k d) : a.take (k + 1) = b.take (k + 1) := by
  have h1 : a[k]? = b[k]? := by
    simp only [List.getD_eq_getElem?_getD, List.getElem?_eq_getElem hk, List.getElem?_eq_getElem (show k < b.length by omega), Option.getD_some] at e ⊢
    rw [e]
  rw [List.take_add_one, List.take_add_one, h, h1]
theorem take_succ {α : Type} {a : List α} {d : α} {k : Nat} (hk : k < a.length) : a.take (k + 1) = a.take k ++ [a.getD k d] := by
  rw [List.take_add_one, List.getElem?_eq_getElem hk, List.getD_eq_getElem?_getD, List.getElem?_eq_getElem hk]; rfl
theorem k44 : eqTK Try.prog 44 = some [.int, .int] := by kernel_rfl

theorem _root_.Go.Dl.Tri.at {P : Program} {N : Nat} {Y : YT} {c : Code} {st : St} {Q : DExit → St → Prop} (t : Nat) (d : DV) (_ : st.tm t = d) (h : Tri P N Y c st Q) : Tri P N Y c st Q := h
def inB (v : Int) (x : Lk) : Bool := x.1 == v || x.2 == v
def degT (l : List Lk) (v : Int) : Nat := l.countP (inB v)
theorem degT_le (l : List Lk) (v : Int) : degT l v ≤ l.length := List.countP_le_length
theorem degT_succ (l : List Lk) (v : Int) {k : Nat} (hk : k < l.length) : degT (l.take (k + 1)) v = degT (l.take k) v + (if inB v (l.getD k lk0) then 1 else 0) := by
  rw [take_succ (d := lk0) hk, degT, degT, List.countP_append, List.countP_singleton]

theorem wsucc {k n : Nat} (h : k < n) (hn : n ≤ 9223372036854775807) : IntKind.i64.wrap ((k : Int) + 1) = ((k + 1 : Nat) : Int) := by
  have := wrap64 (k := k + 1) (by omega)
  simpa using this
theorem lt_of_test {k : Nat} {α : Type} {f : α → List DV} {l : List α} (h : decide ((k : Int) < ((l.map f).length : Nat)) = true) : k < l.length := by simpa using h
theorem ge_of_test {k : Nat} {α : Type} {f : α → List DV} {l : List α} (h : decide ((k : Int) < ((l.map f).length : Nat)) = false) : l.length ≤ k := by simpa using h
theorem deg_yes {l : List Lk} {v : Int} {k : Nat} (hl : l.length ≤ 9223372036854775807) (hk : k < l.length) (h : inB v (l.getD k lk0) = true) : IntKind.i64.wrap ((degT (l.take k) v : Nat) + 1) = (degT (l.take (k + 1)) v : Nat) := by
  rw [degT_succ l v hk, if_pos h]
  exact wsucc (n := l.length) (by have := degT_le (l.take k) v; rw [List.length_take] at this; omega) hl
theorem deg_no {l : List Lk} {v : Int} {k : Nat} (hk : k < l.length) (h : inB v (l.getD k lk0) = false) : ((degT (l.take k) v : Nat) : Int) = (degT (l.take (k + 1)) v : Nat) := by
  rw [degT_succ l v hk, if_neg (by rw [h]; simp)]; rfl
theorem in_bif {v : Int} {x : Lk} {b : Bool} (h : (bif x.1 == v then true else x.2 == v) = b) : inB v x = b := by
  rw [← h, inB]; cases x.1 == v <;> rfl
def degSt22 (l : List Lk) (v : Int) (k : Nat) : St := ⟨0, tmOf [(1, int1 v), (5, int1 (degT (l.take k) v)), (8, links l), (9, int1 l.length), (10, int1 k)], .of [] 0⟩
set_option maxRecDepth 10000 in
theorem deg22_D (l : List Lk) (v : Int) : DPure Try.prog 22 [links l, int1 v] (int1 (degT l v)) := by
  refine DFun.bound 0 rfl fun ha => ?_
  have ha : l.length ≤ 9223372036854775807 := by simpa [maxLen] using ha
  refine DFun.body Try.func22 rfl (by kernel_rfl) ?_
  repeat' (first | with_reducible rfl | ((conv => whnf); first | refine And.intro ?_ ?_ | (intro h; first | exact Bool.noConfusion h | with_reducible exact h | (have ht : true = true := h; clear ht h) | skip) | ((with_reducible refine DWl.mark ?_); repeat' (first | refine DWl.cons ?_ ?_ | exact DWl.nil | exact DW.same _ rfl | exact DW.ref _ _ _ rfl | exact DW.arr _ _ _ rfl | exact DW.sub _ _ _ _ rfl | exact DW.nilLst _ | refine DW.aggl ?_ | refine DW.tupl ?_ | refine DW.clol ?_ ?_ | refine DW.int ?_ | refine DW.bool ?_ | refine DW.str ?_)) | ((with_reducible refine Tri.mark ?_); first | refine Tri.loop (degSt22 l v) (fun k => k ≤ l.length) (fun k => l.length - k) (0) (by kernel_rfl) (Weak.list [] [] ?_ ?_ ?_) ?_ ?_) | ((with_reducible refine Round.mark ?_); first | refine Round.go ((· + 1)) ?_ ?_ (Weak.list [] [] ?_ ?_ ?_)) | refine dloadE_map (lk0) ?_ ?_ | refine dcell_ok rfl ?_ | refine AppC.new ?_))
  all_goals first | (with_reducible refine enters_mark ?_; kernel_rfl) | (with_reducible refine boolT_mark ?_; kernel_rfl) | rfl | trivial | assumption | exact Nat.le_of_ble_eq_true rfl | (show entersB _ _ = true; kernel_rfl) | exact DW.same _ rfl | exact DW.ref _ _ _ rfl | exact DW.arr _ _ _ rfl | refine DW.int ?_ | refine dvb ?_ | refine dvi ?_ | exact OW.cells rfl rfl (DWl.same rfl) | skip
  all_goals repeat' (first | exact OW.cells rfl rfl (DWl.same rfl) | refine OW.cells rfl rfl ?_ | exact DW.nilArr _ rfl | refine DW.clol ?_ ?_ | refine DWl.cons ?_ ?_ | exact DWl.nil | exact DW.same _ rfl | exact DW.ref _ _ _ rfl | exact DW.arr _ _ _ rfl | refine DW.int ?_)
  all_goals try (simp_all; done)
  all_goals try (simp at *; omega)
  · rename_i e0 k hk e1
    exact deg_yes ha (of_decide_eq_true e1 |> Int.ofNat_lt.1) (in_bif h)
  · rename_i e0 k hk e1
    exact wsucc (of_decide_eq_true e1 |> Int.ofNat_lt.1) ha
  · rename_i e0 k hk e1
    exact deg_no (of_decide_eq_true e1 |> Int.ofNat_lt.1) (in_bif h)
  · rename_i e0 k hk e1
    exact wsucc (of_decide_eq_true e1 |> Int.ofNat_lt.1) ha
  · rename_i e0 k hk
    rw [List.take_of_length_le (Nat.not_lt.1 fun hh => of_decide_eq_false h (Int.ofNat_lt.2 hh))]
def degSt23 (l : List Lk) (v : Int) (k : Nat) : St := ⟨0, tmOf [(0, links l), (1, int1 v), (5, int1 (degT (l.take k) v)), (6, int1 k)], .of [] 0⟩
theorem deg23_D (l : List Lk) (v : Int) : DPure Try.prog 23 [links l, int1 v] (int1 (degT l v)) := by
  refine DFun.bound 0 rfl fun ha => ?_
  have ha : l.length ≤ 9223372036854775807 := by simpa [maxLen] using ha
  refine DFun.body Try.func23 rfl (by kernel_rfl) ?_
  repeat' (first | with_reducible rfl | ((conv => whnf); first | refine And.intro ?_ ?_ | (intro h; first | exact Bool.noConfusion h | with_reducible exact h | (have ht : true = true := h; clear ht h) | skip) | ((with_reducible refine DWl.mark ?_); repeat' (first | refine DWl.cons ?_ ?_ | exact DWl.nil | exact DW.same _ rfl | exact DW.ref _ _ _ rfl | exact DW.arr _ _ _ rfl | exact DW.sub _ _ _ _ rfl | exact DW.nilLst _ | refine DW.aggl ?_ | refine DW.tupl ?_ | refine DW.clol ?_ ?_ | refine DW.int ?_ | refine DW.bool ?_ | refine DW.str ?_)) | ((with_reducible refine Tri.mark ?_); first | refine Tri.loop (degSt23 l v) (fun k => k ≤ l.length) (fun k => l.length - k) (0) (by kernel_rfl) (Weak.list [] [] ?_ ?_ ?_) ?_ ?_) | ((with_reducible refine Round.mark ?_); first | refine Round.go ((· + 1)) ?_ ?_ (Weak.list [] [] ?_ ?_ ?_)) | refine dloadE_map (lk0) ?_ ?_ | refine dcell_ok rfl ?_ | refine AppC.new ?_))
  all_goals first | (with_reducible refine enters_mark ?_; kernel_rfl) | (with_reducible refine boolT_mark ?_; kernel_rfl) | rfl | trivial | assumption | exact Nat.le_of_ble_eq_true rfl | (show entersB _ _ = true; kernel_rfl) | exact DW.same _ rfl | exact DW.ref _ _ _ rfl | exact DW.arr _ _ _ rfl | refine DW.int ?_ | refine dvb ?_ | refine dvi ?_ | exact OW.cells rfl rfl (DWl.same rfl) | skip
  all_goals repeat' (first | exact OW.cells rfl rfl (DWl.same rfl) | refine OW.cells rfl rfl ?_ | exact DW.nilArr _ rfl | refine DW.clol ?_ ?_ | refine DWl.cons ?_ ?_ | exact DWl.nil | exact DW.same _ rfl | exact DW.ref _ _ _ rfl | exact DW.arr _ _ _ rfl | refine DW.int ?_)
  all_goals try (simp_all; done)
  all_goals try (simp at *; omega)
  · rename_i e0 k hk e1
    exact deg_yes ha (lt_of_test e1) (in_bif h)
  · rename_i e0 k hk e1
    exact wsucc (lt_of_test e1) ha
  · rename_i e0 k hk e1
    exact deg_no (lt_of_test e1) (in_bif h)
  · rename_i e0 k hk e1
    exact wsucc (lt_of_test e1) ha
  · rename_i e0 k hk
    rw [List.take_of_length_le (ge_of_test h)]
end Go.Proofs.Ytphgcgggbbcjgaa

/- Pairs that fit. -/
namespace Go.Proofs.Ytphgcgggbbcjgaa
open Go.RowKit Go.Dl
attribute [local irreducible] Tri SCall DFun QSem PCall GCall MCall Round Weak dloadE OW DWl Tells IntKind.wrap Retold ESem

def aheadT (a b : Lk) : Int := if a.1 = b.1 then IntKind.i64.wrap (a.2 - b.2) else IntKind.i64.wrap (a.1 - b.1)
set_option maxRecDepth 20000 in
theorem ahead_D (a b : Lk) : DPure Try.prog 30 [.agg (linkD a), .agg (linkD b)] (int1 (aheadT a b)) := by
  refine DFun.body Try.func30 rfl (by kernel_rfl) ?_
  repeat' (first | with_reducible rfl | ((conv => whnf); first | refine And.intro ?_ ?_ | (intro h; first | exact Bool.noConfusion h | with_reducible exact h | (have ht : true = true := h; clear ht h) | skip) | ((with_reducible refine DWl.mark ?_); repeat' (first | refine DWl.cons ?_ ?_ | exact DWl.nil | exact DW.same _ rfl | exact DW.ref _ _ _ rfl | exact DW.arr _ _ _ rfl | exact DW.sub _ _ _ _ rfl | exact DW.nilLst _ | refine DW.aggl ?_ | refine DW.tupl ?_ | refine DW.clol ?_ ?_ | refine DW.int ?_ | refine DW.bool ?_ | refine DW.str ?_)) | refine dcell_ok rfl ?_ | refine AppC.new ?_))
  all_goals first | (with_reducible refine enters_mark ?_; kernel_rfl) | (with_reducible refine boolT_mark ?_; kernel_rfl) | rfl | trivial | assumption | exact Nat.le_of_ble_eq_true rfl | (show entersB _ _ = true; kernel_rfl) | exact DW.same _ rfl | exact DW.ref _ _ _ rfl | exact DW.arr _ _ _ rfl | refine DW.int ?_ | refine dvb ?_ | refine dvi ?_ | exact OW.cells rfl rfl (DWl.same rfl) | skip
  all_goals repeat' (first | exact OW.cells rfl rfl (DWl.same rfl) | refine OW.cells rfl rfl ?_ | exact DW.nilArr _ rfl | refine DW.clol ?_ ?_ | refine DWl.cons ?_ ?_ | exact DWl.nil | exact DW.same _ rfl | exact DW.ref _ _ _ rfl | exact DW.arr _ _ _ rfl | refine DW.int ?_)
  all_goals try (simp_all; done)
  all_goals try (simp at *; omega)
  · rw [aheadT, if_neg (by simpa using h)]
  · rw [aheadT, if_pos (by simpa using h)]

theorem eqL_len {α : Type} [DecidableEq α] {f : α → List DV} {a b : List α} (h : ((((a.map f).length : Nat) : Int) != ((b.map f).length : Nat)) = true) : false = decide (a = b) := by
  symm
  rw [decide_eq_false_iff_not]
  intro e; subst e; simp at h
theorem eqL_lenF {α : Type} {f : α → List DV} {a b : List α} (h : ((((a.map f).length : Nat) : Int) != ((b.map f).length : Nat)) = false) : a.length = b.length := by simp at h; omega
theorem eqL_at {α : Type} [DecidableEq α] {a b : List α} {d : α} {k : Nat} (h : a.getD k d ≠ b.getD k d) : false = decide (a = b) := by
  symm
  rw [decide_eq_false_iff_not]
  intro e; subst e; exact h rfl
theorem eqL_all {α : Type} [DecidableEq α] {a b : List α} {k : Nat} (hl : a.length = b.length) (hk : k ≤ a.length ∧ a.take k = b.take k) (h : a.length ≤ k) : true = decide (a = b) := by
  symm
  have h4 := hk.2
  rw [List.take_of_length_le h, List.take_of_length_le (by omega)] at h4
  simp [h4]
theorem lk_ne {x y : Lk} {b : Bool} (h : (!cellsEq [DV.v (Value.int IntKind.i64 x.1), DV.v (Value.int IntKind.i64 x.2)] [DV.v (Value.int IntKind.i64 y.1), DV.v (Value.int IntKind.i64 y.2)]) = b) : b = true ↔ x ≠ y := by
  subst h
  cases x; cases y
  simp [cellsEq, cellEq]
  grind
def sameSt (a b : List Lk) (k : Nat) : St := ⟨0, tmOf [(0, links a), (1, links b), (12, int1 (a.map linkD).length), (13, int1 k)], .of [] 0⟩
theorem same_D (a b : List Lk) : DPure Try.prog 10 [links a, links b] (.v (.bool (decide (a = b)))) := by
  refine DFun.bound 0 rfl fun ha => ?_
  have ha : a.length ≤ 9223372036854775807 := by simpa [maxLen] using ha
  refine DFun.body Try.func10 rfl (by kernel_rfl) ?_
  repeat' (first | with_reducible rfl | ((conv => whnf); first | refine And.intro ?_ ?_ | (intro h; first | exact Bool.noConfusion h | with_reducible exact h | (have ht : true = true := h; clear ht h) | skip) | ((with_reducible refine DWl.mark ?_); repeat' (first | refine DWl.cons ?_ ?_ | exact DWl.nil | exact DW.same _ rfl | exact DW.ref _ _ _ rfl | exact DW.arr _ _ _ rfl | exact DW.sub _ _ _ _ rfl | exact DW.nilLst _ | refine DW.aggl ?_ | refine DW.tupl ?_ | refine DW.clol ?_ ?_ | refine DW.int ?_ | refine DW.bool ?_ | refine DW.str ?_)) | ((with_reducible refine Tri.mark ?_); first | refine Tri.loop (sameSt a b) (fun k => k ≤ a.length ∧ a.take k = b.take k) (fun k => a.length - k) (0) (by kernel_rfl) (Weak.list [] [] ?_ ?_ ?_) ?_ ?_) | ((with_reducible refine Round.mark ?_); first | refine Round.go ((· + 1)) ?_ ?_ (Weak.list [] [] ?_ ?_ ?_)) | ((with_reducible refine ex_mark ?_); first | refine dq_eql k44 ?_ rfl ?_ rfl rfl ?_ | refine dq_neq k44 ?_ rfl ?_ rfl rfl ?_) | refine dloadE_map (lk0) ?_ ?_ | refine dcell_ok rfl ?_ | refine AppC.new ?_))
  all_goals first | (with_reducible refine enters_mark ?_; kernel_rfl) | (with_reducible refine boolT_mark ?_; kernel_rfl) | rfl | trivial | assumption | exact Nat.le_of_ble_eq_true rfl | (show entersB _ _ = true; kernel_rfl) | exact DW.same _ rfl | exact DW.ref _ _ _ rfl | exact DW.arr _ _ _ rfl | refine DW.int ?_ | refine dvb ?_ | refine dvi ?_ | exact OW.cells rfl rfl (DWl.same rfl) | skip
  all_goals repeat' (first | exact OW.cells rfl rfl (DWl.same rfl) | refine OW.cells rfl rfl ?_ | exact DW.nilArr _ rfl | refine DW.clol ?_ ?_ | refine DWl.cons ?_ ?_ | exact DWl.nil | exact DW.same _ rfl | exact DW.ref _ _ _ rfl | exact DW.arr _ _ _ rfl | refine DW.int ?_)
  all_goals try (simp_all; done)
  all_goals try (simp at *; omega)
  · exact eqL_len h
  · exact eqL_at ((lk_ne h).1 rfl)
  · rename_i e0 k hk e1
    refine take_succ_eq (d := lk0) (eqL_lenF e0) hk.2 (lt_of_test e1) (Classical.byContradiction fun hc => ?_)
    have := (lk_ne h).2 hc
    cases this
  · rename_i e0 k hk e1
    exact wsucc (lt_of_test e1) ha
  · rename_i e0 k hk
    exact eqL_all (eqL_lenF e0) hk (ge_of_test h)
def intsSt (a b : List Int) (k : Nat) : St := ⟨0, tmOf [(0, ints a), (1, ints b), (12, int1 (a.map intD).length), (13, int1 k)], .of [] 0⟩
theorem ints_D (a b : List Int) : DPure Try.prog 24 [ints a, ints b] (.v (.bool (decide (a = b)))) := by
  refine DFun.bound 0 rfl fun ha => ?_
  have ha : a.length ≤ 9223372036854775807 := by simpa [maxLen] using ha
  refine DFun.body Try.func24 rfl (by kernel_rfl) ?_
  repeat' (first | with_reducible rfl | ((conv => whnf); first | refine And.intro ?_ ?_ | (intro h; first | exact Bool.noConfusion h | with_reducible exact h | (have ht : true = true := h; clear ht h) | skip) | ((with_reducible refine DWl.mark ?_); repeat' (first | refine DWl.cons ?_ ?_ | exact DWl.nil | exact DW.same _ rfl | exact DW.ref _ _ _ rfl | exact DW.arr _ _ _ rfl | exact DW.sub _ _ _ _ rfl | exact DW.nilLst _ | refine DW.aggl ?_ | refine DW.tupl ?_ | refine DW.clol ?_ ?_ | refine DW.int ?_ | refine DW.bool ?_ | refine DW.str ?_)) | ((with_reducible refine Tri.mark ?_); first | refine Tri.loop (intsSt a b) (fun k => k ≤ a.length ∧ a.take k = b.take k) (fun k => a.length - k) (0) (by kernel_rfl) (Weak.list [] [] ?_ ?_ ?_) ?_ ?_) | ((with_reducible refine Round.mark ?_); first | refine Round.go ((· + 1)) ?_ ?_ (Weak.list [] [] ?_ ?_ ?_)) | refine dloadE_map (0) ?_ ?_ | refine dcell_ok rfl ?_ | refine AppC.new ?_))
  all_goals first | (with_reducible refine enters_mark ?_; kernel_rfl) | (with_reducible refine boolT_mark ?_; kernel_rfl) | rfl | trivial | assumption | exact Nat.le_of_ble_eq_true rfl | (show entersB _ _ = true; kernel_rfl) | exact DW.same _ rfl | exact DW.ref _ _ _ rfl | exact DW.arr _ _ _ rfl | refine DW.int ?_ | refine dvb ?_ | refine dvi ?_ | exact OW.cells rfl rfl (DWl.same rfl) | skip
  all_goals repeat' (first | exact OW.cells rfl rfl (DWl.same rfl) | refine OW.cells rfl rfl ?_ | exact DW.nilArr _ rfl | refine DW.clol ?_ ?_ | refine DWl.cons ?_ ?_ | exact DWl.nil | exact DW.same _ rfl | exact DW.ref _ _ _ rfl | exact DW.arr _ _ _ rfl | refine DW.int ?_)
  all_goals try (simp_all; done)
  all_goals try (simp at *; omega)
  · exact eqL_len h
  · exact eqL_at (by simpa using h)
  · rename_i e0 k hk e1
    exact take_succ_eq (d := 0) (eqL_lenF e0) hk.2 (lt_of_test e1) (by simpa using h)
  · rename_i e0 k hk e1
    exact wsucc (lt_of_test e1) ha
  · rename_i e0 k hk
    exact eqL_all (eqL_lenF e0) hk (ge_of_test h)

def lexB (a b : Lk) : Bool := decide (a.1 < b.1) || (a.1 == b.1 && decide (a.2 < b.2))
def okL (n : Int) (l : List Lk) (i : Nat) : Bool :=
  decide (0 ≤ (l.getD i lk0).1) && decide ((l.getD i lk0).1 < (l.getD i lk0).2) && decide ((l.getD i lk0).2 < n) && (i == 0 || lexB (l.getD (i - 1) lk0) (l.getD i lk0))
def fitB (n : Int) (l : List Lk) : Bool :=
  decide (1 ≤ n) && decide (n ≤ 16) && decide (∀ i, i < l.length → okL n l i = true) && decide (∀ v : Nat, v < n.toNat → degT l v ≤ 6)

def fitSt21 (n : Int) (l : List Lk) (k : Nat) : St := ⟨0, tmOf [(0, int1 n), (1, links l), (14, links l), (15, int1 (l.map linkD).length), (16, int1 k)], .of [] 0⟩
def degSt21 (n : Int) (l : List Lk) (k : Nat) : St := ⟨0, tmOf [(0, int1 n), (1, links l), (52, int1 n), (53, int1 k)], .of [] 0⟩
theorem okL_iff {n : Int} {l : List Lk} {i : Nat} : okL n l i = true ↔ 0 ≤ (l.getD i lk0).1 ∧ (l.getD i lk0).1 < (l.getD i lk0).2 ∧ (l.getD i lk0).2 < n ∧ (i = 0 ∨ lexB (l.getD (i - 1) lk0) (l.getD i lk0) = true) := by
  simp only [okL, Bool.and_eq_true, decide_eq_true_eq, Bool.or_eq_true, beq_iff_eq, and_assoc]
theorem ahead_lex {a b : Lk} (h1 : 0 ≤ a.1) (h2 : 0 ≤ a.2) (h3 : 0 ≤ b.1) (h4 : 0 ≤ b.2) (k1 : a.1 < 100) (k2 : a.2 < 100) (k3 : b.1 < 100) (k4 : b.2 < 100) : decide (0 ≤ aheadT a b) = !lexB a b := by
  unfold aheadT lexB
  split
  · rename_i e
    rw [wrapI (by omega) (by omega), Bool.eq_iff_iff]
    simp [e]
  · rename_i e
    rw [wrapI (by omega) (by omega), Bool.eq_iff_iff]
    simp [e]
theorem wpred {k n : Nat} (h0 : 0 < k) (h : k < n) (hn : n ≤ 9223372036854775807) : IntKind.i64.wrap ((k : Int) - 1) = ((k - 1 : Nat) : Int) := by
  have : (k : Int) - 1 = ((k - 1 : Nat) : Int) := by omega
  rw [this]; exact wrap64 (by omega)
theorem ok21 {n : Int} {l : List Lk} {k : Nat} (hn : n ≤ 16) (hl : l.length ≤ 9223372036854775807) (hk : k < l.length) (hj : ∀ j, j < k → okL n l j = true) :
    (bif bif bif decide ((l.getD k lk0).fst < 0) then true else decide ((l.getD k lk0).snd ≤ (l.getD k lk0).fst) then true else decide (n ≤ (l.getD k lk0).snd) then true else bif decide (0 < (k : Int)) then decide (0 ≤ aheadT (l.getD (IntKind.i64.wrap ((k : Int) - 1)).toNat lk0) (l.getD k lk0)) else false) = !okL n l k := by
  rcases Nat.eq_zero_or_pos k with rfl | h0
  · rw [Bool.eq_iff_iff]
    simp [okL]
    try omega
  · rw [wpred h0 hk hl]
    have h1 := okL_iff.1 (hj (k - 1) (by omega))
    generalize hb : l.getD k lk0 = b at *
    rw [Int.toNat_natCast]
    generalize ha : l.getD (k - 1) lk0 = a at *
    have e0 : okL n l k = (decide (0 ≤ b.1) && decide (b.1 < b.2) && decide (b.2 < n) && lexB a b) := by
      unfold okL
      rw [hb, ha]
      have : (k == 0) = false := by simp; omega
      rw [this, Bool.false_or]
    rw [e0]
    have e4 : decide ((0 : Int) < k) = true := by simp; omega
    rw [e4]
    by_cases c1 : 0 ≤ b.1
    · by_cases c2 : b.1 < b.2
      · by_cases c3 : b.2 < n
        · rw [ahead_lex (by omega) (by omega) (by omega) (by omega) (by omega) (by omega) (by omega) (by omega)]
          simp [c1, c2, show ¬ b.1 < 0 by omega, show ¬ b.2 ≤ b.1 by omega, show ¬ n ≤ b.2 by omega, c3]
        · simp [c1, c2, c3, show n ≤ b.2 by omega]
      · simp [c1, c2, show b.2 ≤ b.1 by omega]
    · simp [c1, show b.1 < 0 by omega]
theorem fitB_no {n : Int} {l : List Lk} {k : Nat} (hk : k < l.length) (h : okL n l k = false) : false = fitB n l := by
  symm
  unfold fitB
  simp only [Bool.and_eq_false_iff, decide_eq_false_iff_not]
  exact .inl (.inr fun hh => by rw [hh k hk] at h; cases h)
theorem fitB_noD {n : Int} {l : List Lk} {k : Nat} (hk : k < n.toNat) (h : 6 < degT l k) : false = fitB n l := by
  symm
  unfold fitB
  simp only [Bool.and_eq_false_iff, decide_eq_false_iff_not]
  exact .inr fun hh => by have := hh k hk; omega
theorem fitB_iff {n : Int} {l : List Lk} : fitB n l = true ↔ 1 ≤ n ∧ n ≤ 16 ∧ (∀ i, i < l.length → okL n l i = true) ∧ ∀ v : Nat, v < n.toNat → degT l v ≤ 6 := by
  simp only [fitB, Bool.and_eq_true, decide_eq_true_eq, and_assoc]
theorem headF (n : Int) : (bif decide (n < 1) then true else decide (16 < n)) = !(decide (1 ≤ n) && decide (n ≤ 16)) := by
  rw [Bool.eq_iff_iff]; simp; try omega
theorem fitB_head {n : Int} {l : List Lk} (h : (bif decide (n < 1) then true else decide (16 < n)) = true) : false = fitB n l := by
  rw [headF] at h
  unfold fitB
  rw [Bool.not_eq_true'] at h
  rw [h]; rfl
theorem fit_headF {n : Int} (h : (bif decide (n < 1) then true else decide (16 < n)) = false) : 1 ≤ n ∧ n ≤ 16 := by
  rw [headF] at h
  simpa using h
set_option maxRecDepth 20000 in
theorem fit21_D (n : Int) (l : List Lk) : DPure Try.prog 21 [int1 n, links l] (.v (.bool (fitB n l))) := by
  refine DFun.bound 1 rfl fun ha => ?_
  have ha : l.length ≤ 9223372036854775807 := by simpa [maxLen] using ha
  refine DFun.body Try.func21 rfl (by kernel_rfl) ?_
  repeat' (first | with_reducible rfl | ((conv => whnf); first | refine And.intro ?_ ?_ | (intro h; first | exact Bool.noConfusion h | with_reducible exact h | (have ht : true = true := h; clear ht h) | skip) | ((with_reducible refine DWl.mark ?_); repeat' (first | refine DWl.cons ?_ ?_ | exact DWl.nil | exact DW.same _ rfl | exact DW.ref _ _ _ rfl | exact DW.arr _ _ _ rfl | exact DW.sub _ _ _ _ rfl | exact DW.nilLst _ | refine DW.aggl ?_ | refine DW.tupl ?_ | refine DW.clol ?_ ?_ | refine DW.int ?_ | refine DW.bool ?_ | refine DW.str ?_)) | ((with_reducible refine SCall.mark ?_); first | refine SCall.data (ahead_D _ _) rfl rfl ?_ | refine SCall.scal (ahead_D _ _) rfl rfl ?_ | refine SCall.data (deg22_D _ _) rfl rfl ?_ | refine SCall.scal (deg22_D _ _) rfl rfl ?_) | ((with_reducible refine PCall.mark ?_); first | refine PCall.mk (ahead_D _ _) rfl rfl ?_ | refine PCall.mk (deg22_D _ _) rfl rfl ?_) | ((with_reducible refine GCall.mark ?_); first | refine GCall.data (fun _ => ahead_D _ _) rfl rfl ?_ | refine GCall.scal (fun _ => ahead_D _ _) rfl rfl ?_ | refine GCall.data (fun _ => deg22_D _ _) rfl rfl ?_ | refine GCall.scal (fun _ => deg22_D _ _) rfl rfl ?_) | ((with_reducible refine MCall.mark ?_); first | refine MCall.data (fun _ => ahead_D _ _) rfl rfl ?_ | refine MCall.plain (PCall.mk (ahead_D _ _) rfl rfl ?_) | refine MCall.data (fun _ => deg22_D _ _) rfl rfl ?_ | refine MCall.plain (PCall.mk (deg22_D _ _) rfl rfl ?_)) | ((with_reducible refine Tri.mark ?_); first | (refine Tri.at (16) (int1 0) (by rfl) ?_; refine Tri.loop (fitSt21 n l) (fun k => k ≤ l.length ∧ ∀ j, j < k → okL n l j = true) (fun k => l.length - k) (0) (by kernel_rfl) (Weak.list [] [] ?_ ?_ ?_) ?_ ?_) | (refine Tri.at (53) (int1 0) (by rfl) ?_; refine Tri.loop (degSt21 n l) (fun k => k ≤ n.toNat ∧ ∀ j : Nat, j < k → degT l j ≤ 6) (fun k => n.toNat - k) (0) (by kernel_rfl) (Weak.list [] [] ?_ ?_ ?_) ?_ ?_)) | ((with_reducible refine Round.mark ?_); first | refine Round.go ((· + 1)) ?_ ?_ (Weak.list [] [] ?_ ?_ ?_)) | refine dloadE_map (lk0) ?_ ?_ | refine dcell_ok rfl ?_ | refine AppC.new ?_))
  all_goals first | (with_reducible refine enters_mark ?_; kernel_rfl) | (with_reducible refine boolT_mark ?_; kernel_rfl) | rfl | trivial | assumption | exact Nat.le_of_ble_eq_true rfl | (show entersB _ _ = true; kernel_rfl) | exact DW.same _ rfl | exact DW.ref _ _ _ rfl | exact DW.arr _ _ _ rfl | refine DW.int ?_ | refine dvb ?_ | refine dvi ?_ | exact OW.cells rfl rfl (DWl.same rfl) | skip
  all_goals repeat' (first | exact OW.cells rfl rfl (DWl.same rfl) | refine OW.cells rfl rfl ?_ | exact DW.nilArr _ rfl | refine DW.clol ?_ ?_ | refine DWl.cons ?_ ?_ | exact DWl.nil | exact DW.same _ rfl | exact DW.ref _ _ _ rfl | exact DW.arr _ _ _ rfl | refine DW.int ?_)
  all_goals try (simp_all; done)
  all_goals try (simp at *; omega)
  · exact fitB_head h
  · rename_i e0 k hk e1
    have : 0 < k := by simp at h; omega
    rw [wpred this (lt_of_test e1) ha]; omega
  · rename_i e0 k hk e1
    have : 0 < k := by simp at h; omega
    rw [wpred this (lt_of_test e1) ha]; simp at e1 ⊢; omega
  · rename_i e0 k hk e1
    have : 0 < k := by simp at h; omega
    rw [wpred this (lt_of_test e1) ha]; simp at e1 ⊢; omega
  · rename_i e0 k hk e1
    have := (ok21 (fit_headF e0).2 ha (lt_of_test e1) hk.2).symm.trans h
    exact fitB_no (lt_of_test e1) (by simpa using this)
  · rename_i e0 k hk e1 e2 j
    rcases Nat.lt_or_ge j k with h1 | h1
    · exact hk.2 j h1
    · have : j = k := by omega
      subst this
      have := (ok21 (fit_headF e0).2 ha (lt_of_test e1) hk.2).symm.trans e2
      simpa using this
  · rename_i e0 k hk e1
    exact wsucc (lt_of_test e1) ha
  · rename_i e0 k0 hk0 e1 k hk e2
    exact fitB_noD (k := k) (by simp at e2; omega) (by simp at h; omega)
  · rename_i e0 k0 hk0 e1 k hk e2 e3 j
    rcases Nat.lt_or_ge j k with h1 | h1
    · exact hk.2 j h1
    · have : j = k := by omega
      subst this
      simp at e3; omega
  · rename_i e0 k0 hk0 e1 k hk e2
    have := fit_headF e0
    exact wsucc (n := 16) (by simp at e2; omega) (by omega)
  · rename_i e0 k0 hk0 e1 k hk
    have h1 := fit_headF e0
    have h2 := ge_of_test e1
    refine (fitB_iff.2 ⟨h1.1, h1.2, fun i hi => hk0.2 i (by omega), fun v hv => hk.2 v ?_⟩).symm
    simp at h; omega

def fitSt14 (n : Int) (l : List Lk) (k : Nat) : St := ⟨0, tmOf [(0, int1 n), (1, links l), (5, int1 k)], .of [] 0⟩
def okD (l : List Lk) (i : Nat) : Bool := decide (degT l (l.getD i lk0).1 ≤ 6) && decide (degT l (l.getD i lk0).2 ≤ 6)
theorem t14a {x : Lk} {n : Int} {dA dB : Nat} {b : Bool} (h : (bif bif bif bif decide (x.1 < 0) then true else decide (n ≤ x.2) then true else decide (x.2 ≤ x.1) then true else decide ((6 : Int) < (dA : Nat)) then true else decide ((6 : Int) < (dB : Nat))) = b) :
    b = false ↔ 0 ≤ x.1 ∧ x.1 < x.2 ∧ x.2 < n ∧ dA ≤ 6 ∧ dB ≤ 6 := by
  subst h
  simp
  omega
theorem t14b {a b : Lk} {k : Nat} {r : Bool} (h : (bif decide (0 < (k : Int)) then bif decide (b.1 < a.1) then true else bif a.1 == b.1 then decide (b.2 ≤ a.2) else false else false) = r) : r = false ↔ k = 0 ∨ lexB a b = true := by
  subst h
  unfold lexB
  rcases Nat.eq_zero_or_pos k with rfl | h0
  · simp
  · have : ¬ k = 0 := by omega
    rcases Int.lt_trichotomy a.1 b.1 with h1 | h1 | h1
    · simp [h0, h1, this, show ¬ b.1 < a.1 by omega, show ¬ a.1 = b.1 by omega]
    · simp [h0, h1, this]
    · simp [h0, h1, this, show ¬ a.1 < b.1 by omega, show ¬ a.1 = b.1 by omega]
theorem lex_code {a b : Lk} {n : Int} (hn : 0 ≤ n) (ha : 0 ≤ a.1) (ha2 : a.2 < n) (hb : 0 ≤ b.2) (h : lexB a b = true) : a.1 * n + a.2 + 1 ≤ b.1 * n + b.2 := by
  simp [lexB] at h
  rcases h with h | ⟨h1, h2⟩
  · have := Int.mul_le_mul_of_nonneg_right (show a.1 + 1 ≤ b.1 by omega) hn
    rw [Int.add_mul] at this
    omega
  · rw [h1]; omega
theorem code_ge {n : Int} {l : List Lk} (hn : 0 ≤ n) (h : ∀ i, i < l.length → okL n l i = true) : ∀ i : Nat, i < l.length → (i : Int) ≤ (l.getD i lk0).1 * n + (l.getD i lk0).2 := fun i => by
  induction i with
  | zero =>
    intro hi
    have := okL_iff.1 (h 0 hi)
    have := Int.mul_nonneg this.1 hn
    omega
  | succ i ih =>
    intro hi
    have h1 := ih (by omega)
    have h2 := okL_iff.1 (h (i + 1) hi)
    have h3 := okL_iff.1 (h i (by omega))
    have h4 := lex_code hn h3.1 h3.2.2.1 (by omega) (h2.2.2.2.resolve_left (by omega))
    omega
theorem len_sq {n : Int} {l : List Lk} (hn : 0 ≤ n) (h : ∀ i, i < l.length → okL n l i = true) : (l.length : Int) ≤ n * n := by
  rcases Nat.eq_zero_or_pos l.length with h0 | h0
  · rw [h0]; exact Int.mul_nonneg hn hn
  · have h1 := code_ge hn h (l.length - 1) (by omega)
    have h2 := okL_iff.1 (h (l.length - 1) (by omega))
    have h3 := Int.mul_le_mul_of_nonneg_right (show (l.getD (l.length - 1) lk0).1 + 1 ≤ n by omega) hn
    rw [Int.add_mul] at h3
    omega
theorem deg_pos {l : List Lk} {v : Int} (h : 0 < degT l v) : ∃ i, i < l.length ∧ ((l.getD i lk0).1 = v ∨ (l.getD i lk0).2 = v) := by
  obtain ⟨x, hx, hp⟩ := List.countP_pos_iff.1 h
  obtain ⟨i, hi, e⟩ := List.mem_iff_getElem.1 hx
  refine ⟨i, hi, ?_⟩
  rw [List.getD_eq_getElem?_getD, List.getElem?_eq_getElem hi, Option.getD_some, e]
  simpa [inB] using hp
theorem fit_ends {n : Int} {l : List Lk} (h : fitB n l = true) {i : Nat} (hi : i < l.length) : okD l i = true := by
  obtain ⟨h1, h2, h3, h4⟩ := fitB_iff.1 h
  have h5 := okL_iff.1 (h3 i hi)
  have a1 := h4 (l.getD i lk0).1.toNat (by omega)
  have a2 := h4 (l.getD i lk0).2.toNat (by omega)
  rw [Int.toNat_of_nonneg (by omega)] at a1 a2
  simp only [okD, a1, a2, decide_true, Bool.and_self]
theorem fit_of_ends {n : Int} {l : List Lk} (h1 : 1 ≤ n) (h2 : n ≤ 16) (h : ∀ i, i < l.length → okL n l i = true ∧ okD l i = true) : fitB n l = true := by
  refine fitB_iff.2 ⟨h1, h2, fun i hi => (h i hi).1, fun v hv => ?_⟩
  rcases Nat.eq_zero_or_pos (degT l v) with h0 | h0
  · omega
  · obtain ⟨i, hi, e⟩ := deg_pos h0
    have := (h i hi).2
    simp only [okD, Bool.and_eq_true, decide_eq_true_eq] at this
    rcases e with e | e <;> rw [e] at this
    · exact this.1
    · exact this.2
set_option maxRecDepth 20000 in
theorem fit14_D (n : Int) (l : List Lk) : DPure Try.prog 14 [int1 n, links l] (.v (.bool (fitB n l))) := by
  refine DFun.bound 1 rfl fun ha => ?_
  have ha : l.length ≤ 9223372036854775807 := by simpa [maxLen] using ha
  refine DFun.body Try.func14 rfl (by kernel_rfl) ?_
  repeat' (first | with_reducible rfl | ((conv => whnf); first | refine And.intro ?_ ?_ | (intro h; first | exact Bool.noConfusion h | with_reducible exact h | (have ht : true = true := h; clear ht h) | skip) | ((with_reducible refine DWl.mark ?_); repeat' (first | refine DWl.cons ?_ ?_ | exact DWl.nil | exact DW.same _ rfl | exact DW.ref _ _ _ rfl | exact DW.arr _ _ _ rfl | exact DW.sub _ _ _ _ rfl | exact DW.nilLst _ | refine DW.aggl ?_ | refine DW.tupl ?_ | refine DW.clol ?_ ?_ | refine DW.int ?_ | refine DW.bool ?_ | refine DW.str ?_)) | ((with_reducible refine SCall.mark ?_); first | refine SCall.data (deg23_D _ _) rfl rfl ?_ | refine SCall.scal (deg23_D _ _) rfl rfl ?_) | ((with_reducible refine PCall.mark ?_); first | refine PCall.mk (deg23_D _ _) rfl rfl ?_) | ((with_reducible refine GCall.mark ?_); first | refine GCall.data (fun _ => deg23_D _ _) rfl rfl ?_ | refine GCall.scal (fun _ => deg23_D _ _) rfl rfl ?_) | ((with_reducible refine MCall.mark ?_); first | refine MCall.data (fun _ => deg23_D _ _) rfl rfl ?_ | refine MCall.plain (PCall.mk (deg23_D _ _) rfl rfl ?_)) | ((with_reducible refine Tri.mark ?_); first | refine Tri.loop (fitSt14 n l) (fun k => k ≤ l.length ∧ ∀ j, j < k → okL n l j = true ∧ okD l j = true) (fun k => l.length - k) (0) (by kernel_rfl) (Weak.list [] [] ?_ ?_ ?_) ?_ ?_) | ((with_reducible refine Round.mark ?_); first | refine Round.go ((· + 1)) ?_ ?_ (Weak.list [] [] ?_ ?_ ?_)) | refine dloadE_map (lk0) ?_ ?_ | refine dcell_ok rfl ?_ | refine AppC.new ?_))
  all_goals first | (with_reducible refine enters_mark ?_; kernel_rfl) | (with_reducible refine boolT_mark ?_; kernel_rfl) | rfl | trivial | assumption | exact Nat.le_of_ble_eq_true rfl | (show entersB _ _ = true; kernel_rfl) | exact DW.same _ rfl | exact DW.ref _ _ _ rfl | exact DW.arr _ _ _ rfl | refine DW.int ?_ | refine dvb ?_ | refine dvi ?_ | exact OW.cells rfl rfl (DWl.same rfl) | skip
  all_goals repeat' (first | exact OW.cells rfl rfl (DWl.same rfl) | refine OW.cells rfl rfl ?_ | exact DW.nilArr _ rfl | refine DW.clol ?_ ?_ | refine DWl.cons ?_ ?_ | exact DWl.nil | exact DW.same _ rfl | exact DW.ref _ _ _ rfl | exact DW.arr _ _ _ rfl | refine DW.int ?_)
  all_goals try (simp_all; done)
  all_goals try (simp at *; omega)
  · cases hf : fitB n l with
    | false => rfl
    | true =>
      exfalso
      obtain ⟨h1, h2, h3, h4⟩ := fitB_iff.1 hf
      have h5 := len_sq (by omega) h3
      have h6 : n * n ≤ 16 * n := Int.mul_le_mul_of_nonneg_right h2 (by omega)
      rw [wrapI (by omega) (by omega)] at h
      simp at h
      omega
  · rename_i e0 k hk e1
    cases hf : fitB n l with
    | false => rfl
    | true =>
      exfalso
      have h1 := okL_iff.1 ((fitB_iff.1 hf).2.2.1 k (lt_of_test e1))
      have h2 := fit_ends hf (lt_of_test e1)
      simp only [okD, Bool.and_eq_true, decide_eq_true_eq] at h2
      have := (t14a h).2 ⟨h1.1, h1.2.1, h1.2.2.1, h2.1, h2.2⟩
      cases this
  all_goals try (rename_i e0 k hk e1 e2; (have h0 : 0 < k := by simp at h; omega); rw [wpred h0 (lt_of_test e1) ha]; first | omega | (simp at e1 ⊢; omega))
  · rename_i e0 k hk e1 e2
    cases hf : fitB n l with
    | false => rfl
    | true =>
      exfalso
      have h1 := okL_iff.1 ((fitB_iff.1 hf).2.2.1 k (lt_of_test e1))
      rcases Nat.eq_zero_or_pos k with h0 | h0
      · have := (t14b h).2 (.inl h0); cases this
      · rw [wpred h0 (lt_of_test e1) ha] at h
        have := (t14b h).2 h1.2.2.2; cases this
  · rename_i e0 k hk e1 e2 e3 j
    rcases Nat.lt_or_ge j k with h1 | h1
    · exact (hk.2 j h1).1
    · have : j = k := by omega
      subst this
      have h2 := (t14a e2).1 rfl
      refine okL_iff.2 ⟨h2.1, h2.2.1, h2.2.2.1, ?_⟩
      rcases Nat.eq_zero_or_pos j with h0 | h0
      · exact .inl h0
      · rw [wpred h0 (lt_of_test e1) ha] at e3
        exact (t14b e3).1 rfl
  · rename_i e0 k hk e1 e2 e3 j
    rcases Nat.lt_or_ge j k with h1 | h1
    · exact (hk.2 j h1).2
    · have : j = k := by omega
      subst this
      have h2 := (t14a e2).1 rfl
      simp only [okD, Bool.and_eq_true, decide_eq_true_eq]
      exact h2.2.2.2
  · rename_i e0 k hk e1 e2
    exact wsucc (lt_of_test e1) ha
  · rename_i e0 k hk
    have h1 : 1 ≤ n ∧ n ≤ 16 := by simp at e0; omega
    have h2 := ge_of_test h
    exact (fit_of_ends h1.1 h1.2 fun i hi => hk.2 i (by omega)).symm
end Go.Proofs.Ytphgcgggbbcjgaa

/- The map of shapes. -/
namespace Go.Proofs.Ytphgcgggbbcjgaa
open Go.RowKit Go.Dl

def fnV (f : Nat) : Value := .func (.func f) #[] #[]
def shE : Array MapEntry := #[⟨.int .i64 1, fnV 36, 0⟩, ⟨.int .i64 2, fnV 37, 1⟩, ⟨.int .i64 3, fnV 38, 2⟩, ⟨.int .i64 4, fnV 39, 3⟩, ⟨.int .i64 5, fnV 40, 4⟩, ⟨.int .i64 6, fnV 41, 5⟩, ⟨.int .i64 7, fnV 42, 6⟩]
theorem alloc_set (w : World) (o o' : Obj) : ({ w.alloc o with heap := (w.alloc o).heap.setIfInBounds w.heap.size o' } : World) = w.alloc o' := by
  have h : (w.alloc o).heap.setIfInBounds w.heap.size o' = w.heap.push o' := by
    apply Array.ext_getElem?
    intro i
    show ((w.heap.push o).setIfInBounds w.heap.size o')[i]? = (w.heap.push o')[i]?
    rw [Array.getElem?_setIfInBounds, Array.getElem?_push, Array.getElem?_push]
    by_cases h : w.heap.size = i
    · subst h; simp
    · rw [if_neg h, if_neg (fun e => h e.symm), if_neg (fun e => h e.symm)]
  rw [h]; rfl
theorem insert_new (w : World) (es : Array MapEntry) (clk : Nat) (x : Int) (v : Value) (h : Instr.findNow (.int .i64) (.int .i64 x) es.toList 0 = some none) :
    (Instr.mapUpdate 52 (.map (some w.heap.size)) (.int .i64 x) v).run Try.prog (w.alloc (.map es clk)) = .ok () (w.alloc (.map (es.push ⟨.int .i64 x, v, clk⟩) (clk + 1))) := by
  have hb : (w.alloc (.map es clk)).heap[w.heap.size]? = some (.map es clk) := heap_alloc_new w _
  have hu := Try.underlying3
  simp only [Instr.mapUpdate, Sem.run_bind, run_underlying Try.underlying52, Result.andThen_ok, MapKept.run_getObj_map hb, MapKept.run_checkKey hu (show MapKept.IsKey (.int .i64) (.int .i64 x) from rfl), MapKept.run_findKey hu h, MapKept.run_setObj_map _ hb, alloc_set]
theorem look_run (x : Int) (b clk : Nat) (w : World) (v : Value) (ok : Bool) (hb : w.heap[b]? = some (.map shE clk)) (h : (∃ i, ok = true ∧ Instr.findNow (.int .i64) (.int .i64 x) shE.toList 0 = some (some (i, v))) ∨ (ok = false ∧ v = .nilFunc ∧ Instr.findNow (.int .i64) (.int .i64 x) shE.toList 0 = some none)) :
    (Instr.lookup 52 (.map (some b)) (.int .i64 x) true).run Try.prog w = .ok (.tuple #[v, .bool ok]) w := by
  have hu := Try.underlying3
  rcases h with ⟨i, rfl, h⟩ | ⟨rfl, rfl, h⟩
  · simp only [Instr.lookup, Sem.run_bind, run_underlying Try.underlying52, Result.andThen_ok, MapKept.run_getObj_map hb, MapKept.run_checkKey hu (show MapKept.IsKey (.int .i64) (.int .i64 x) from rfl), MapKept.run_findKey hu h, Sem.run_pure]
    rfl
  · simp only [Instr.lookup, Sem.run_bind, run_underlying Try.underlying52, Result.andThen_ok, MapKept.run_getObj_map hb, MapKept.run_checkKey hu (show MapKept.IsKey (.int .i64) (.int .i64 x) from rfl), MapKept.run_findKey hu h, Sem.run_pure, Try.zeroValue50]
    rfl
set_option maxHeartbeats 2000000 in
theorem shapes_kit (w : World) : Calls Try.prog 28 #[] w fun e w' => ∃ b clk, e = .returned (.map (some b)) ∧ w'.heap[b]? = some (.map shE clk) ∧ w.heap.size ≤ b ∧ Below w.heap.size w w' := by
  have hm : (Instr.makeMap 52 none).run Try.prog w = .ok (.map (some w.heap.size)) (w.alloc (.map #[] 0)) := by
    simp [Instr.makeMap]
  have h1 := insert_new w #[] 0 1 (fnV 36) rfl
  have h2 := insert_new w #[⟨.int .i64 1, fnV 36, 0⟩] 1 2 (fnV 37) rfl
  have h3 := insert_new w #[⟨.int .i64 1, fnV 36, 0⟩, ⟨.int .i64 2, fnV 37, 1⟩] 2 3 (fnV 38) rfl
  have h4 := insert_new w #[⟨.int .i64 1, fnV 36, 0⟩, ⟨.int .i64 2, fnV 37, 1⟩, ⟨.int .i64 3, fnV 38, 2⟩] 3 4 (fnV 39) rfl
  have h5 := insert_new w #[⟨.int .i64 1, fnV 36, 0⟩, ⟨.int .i64 2, fnV 37, 1⟩, ⟨.int .i64 3, fnV 38, 2⟩, ⟨.int .i64 4, fnV 39, 3⟩] 4 5 (fnV 40) rfl
  have h6 := insert_new w #[⟨.int .i64 1, fnV 36, 0⟩, ⟨.int .i64 2, fnV 37, 1⟩, ⟨.int .i64 3, fnV 38, 2⟩, ⟨.int .i64 4, fnV 39, 3⟩, ⟨.int .i64 5, fnV 40, 4⟩] 5 6 (fnV 41) rfl
  have h7 := insert_new w #[⟨.int .i64 1, fnV 36, 0⟩, ⟨.int .i64 2, fnV 37, 1⟩, ⟨.int .i64 3, fnV 38, 2⟩, ⟨.int .i64 4, fnV 39, 3⟩, ⟨.int .i64 5, fnV 40, 4⟩, ⟨.int .i64 6, fnV 41, 5⟩] 6 7 (fnV 42) rfl
  simp only [fnV, List.push_toArray, List.cons_append, List.nil_append] at h1 h2 h3 h4 h5 h6 h7
  go_enter Try.func28, Try.ntmps28
  go_wp2
  go_ret
  refine ⟨_, _, rfl, heap_alloc_new w _, Nat.le_refl _, (Below.refl _ w).alloc (Nat.le_refl _) _⟩
theorem shapes_D : DPure Try.prog 28 [] (.mp shE) := DPure.kit (args := []) fun w _ => (shapes_kit w).mono fun e w' ⟨b, clk, he, h1, h2, h3⟩ => ⟨_, he, h3, fun F hF => .mp _ b clk h1 (hF b h2)⟩
/-- A shape's function; nil: there is none. -/
def shFn (x : Int) : Value := if x = 1 then fnV 36 else if x = 2 then fnV 37 else if x = 3 then fnV 38 else if x = 4 then fnV 39 else if x = 5 then fnV 40 else if x = 6 then fnV 41 else if x = 7 then fnV 42 else .nilFunc
theorem shapes_no {x : Int} (h : x < 1 ∨ 7 < x) : Instr.findNow (.int .i64) (.int .i64 x) shE.toList 0 = some none := by
  have e : ∀ k : Int, 1 ≤ k → k ≤ 7 → (x == k) = false := fun k h1 h2 => by simp; omega
  simp [shE, Instr.findNow, Instr.sameNow, e]
end Go.Proofs.Ytphgcgggbbcjgaa

/- How far each node is from one: the document's answer. -/
namespace Go.Proofs.Ytphgcgggbbcjgaa
open Go.RowKit Go.Dl
attribute [local irreducible] Tri SCall DFun QSem PCall GCall MCall Round Weak dloadE OW DWl Tells IntKind.wrap Retold ESem

theorem intsRow (l : List Int) : ∀ r ∈ l.map intD, r.length = 1 ∧ r.all isData1 = true := by
  intro r hr
  obtain ⟨x, _, rfl⟩ := List.mem_map.1 hr
  exact ⟨rfl, rfl⟩
def rowC (l : List Int) : List DV := (l.map intD).flatten
theorem rowC_eq (l : List Int) : rowC l = (l.map intD).flatten := rfl
theorem rowC_map (l : List Int) : rowC l = l.map fun x => .v (.int .i64 x) := by
  induction l with
  | nil => rfl
  | cons a l ih => simp only [rowC, List.map_cons, List.flatten_cons] at *; rw [ih]; rfl
theorem rowC_len (l : List Int) : (rowC l).length = l.length := by rw [rowC_map, List.length_map]
theorem rowC_all (l : List Int) : (rowC l).all noId1 = true := by
  rw [rowC_map, List.all_map, List.all_eq_true]; intro x _; rfl
theorem rowC_one (l : List Int) : (rowC l).all DV.one = true := by
  rw [rowC_map, List.all_map, List.all_eq_true]; intro x _; rfl
theorem rowC_set (l : List Int) (i : Nat) (x : Int) : setMany (rowC l) i [.v (.int .i64 x)] = rowC (l.set i x) := by
  show (rowC l).set i _ = _
  rw [rowC_map, rowC_map, List.map_set]
theorem dcell_row {g : Bool} {l : List Int} {off : Nat} {K : DV → Prop} (h : g = true → off < l.length) (hK : K (.v (.int .i64 (l.getD off 0)))) : dcell g (rowC l) off K :=
  dcell_at _ (fun hg => by
    have hl := h hg
    rw [rowC_map, List.getElem?_map, List.getElem?_eq_getElem hl, List.getD_eq_getElem?_getD, List.getElem?_eq_getElem hl]; rfl) hK
theorem dcell_set {g : Bool} {l : List Int} {off i : Nat} {x : Int} {K : DV → Prop} (h : g = true → off < l.length) (hK : K (.v (.int .i64 ((l.set i x).getD off 0)))) : dcell g (setMany (rowC l) i [.v (.int .i64 x)]) off K := by
  rw [rowC_set]; exact dcell_row (fun hg => by rw [List.length_set]; exact h hg) hK

/-- A new row of numbers. -/
def OwnR (n : Nat) (D : List Int) (r : DV) (s : Sto) : Prop := r = .arr 0 n ∧ s = .of [(0, ⟨3, 1, rowC D⟩)] 1
theorem OwnR.of {n : Nat} {D D' : List Int} (h : D' = D) : OwnR n D (.arr 0 n) (.of [(0, ⟨3, 1, rowC D'⟩)] 1) := by subst h; exact ⟨rfl, rfl⟩
theorem OwnR.data {P : Program} {f : FuncId} {args : List DV} {n : Nat} {D : List Int} (hn : D.length = n) (h : DFun P f args (OwnR n D)) : DPure P f args (ints D) :=
  DFun.data (h.mono fun r s ⟨h1, h2⟩ => by
    subst h1 h2
    exact Tells.mk (DW.pubM rfl hn rfl rfl (intsRow _) (rowC_eq _)))
theorem rowC_scal (l : List Int) : (rowC l).all scalV = true := by
  rw [rowC_map, List.all_map, List.all_eq_true]; intro x _; rfl
def relaxT (r : Int) (d : List Int) (a b : Nat) : Bool := bif d.getD a 0 == r then decide (d.getD b 0 < 0) else false
def relax (r : Int) (d : List Int) (a b : Nat) : List Int := if relaxT r d a b = true then d.set b (r + 1) else d
def stepD (r : Int) (d : List Int) (x : Lk) : List Int := relax r (relax r d x.1.toNat x.2.toNat) x.2.toNat x.1.toNat
def roundD (l : List Lk) (d : List Int) (r : Nat) : List Int := l.foldl (stepD r) d
def startD (n : Nat) (f : Int) : List Int := (List.replicate n (-1)).set f.toNat 0
def roundsD (n : Nat) (l : List Lk) (f : Int) (k : Nat) : List Int := (List.range k).foldl (roundD l) (startD n f)
def distT (n : Nat) (l : List Lk) (f : Int) : List Int := if 0 ≤ f ∧ f < n then roundsD n l f n else List.replicate n (-1)
theorem relax_len (r : Int) (d : List Int) (a b : Nat) : (relax r d a b).length = d.length := by unfold relax; split <;> simp
theorem stepD_len (r : Int) (d : List Int) (x : Lk) : (stepD r d x).length = d.length := by rw [stepD, relax_len, relax_len]
theorem foldD_len (r : Int) (l : List Lk) : ∀ d : List Int, (l.foldl (stepD r) d).length = d.length := by
  induction l with
  | nil => intro d; rfl
  | cons x l ih => intro d; rw [List.foldl_cons, ih, stepD_len]
theorem roundsD_len (n : Nat) (l : List Lk) (f : Int) (k : Nat) : (roundsD n l f k).length = n := by
  induction k with
  | zero => simp [roundsD, startD]
  | succ k ih => rw [roundsD, List.range_succ, List.foldl_append]; show (roundD l (roundsD n l f k) k).length = n; rw [roundD, foldD_len, ih]
theorem distT_len (n : Nat) (l : List Lk) (f : Int) : (distT n l f).length = n := by
  unfold distT; split
  · exact roundsD_len n l f n
  · simp
def inN (n : Nat) (l : List Lk) : Prop := ∀ i, i < l.length → (0 ≤ (l.getD i lk0).1 ∧ (l.getD i lk0).1 < n) ∧ (0 ≤ (l.getD i lk0).2 ∧ (l.getD i lk0).2 < n)

def fillL (n k : Nat) : List Int := List.replicate k (-1) ++ List.replicate (n - k) 0
def fillSt25 (n : Nat) (l : List Lk) (f : Int) (k : Nat) : St := ⟨0, tmOf [(0, int1 n), (1, links l), (2, int1 f), (7, .arr 0 n), (8, int1 k)], .of [(0, ⟨3, 1, rowC (fillL n k)⟩)] 1⟩
def rndSt25 (n : Nat) (l : List Lk) (f : Int) (k : Nat) : St := ⟨0, tmOf [(0, int1 n), (1, links l), (7, .arr 0 n), (9, int1 k)], .of [(0, ⟨3, 1, rowC (roundsD n l f k)⟩)] 1⟩
def linS25 (n : Nat) (l : List Lk) (r i : Nat) (D : List Int) : St := ⟨0, tmOf [(0, int1 n), (1, links l), (7, .arr 0 n), (9, int1 r), (10, int1 i)], .of [(0, ⟨3, 1, rowC D⟩)] 1⟩
def linSt25 (n : Nat) (l : List Lk) (r : Nat) (x : Nat × List Int) : St := linS25 n l r x.1 x.2
def linPre (l : List Lk) (r : Nat) (D0 : List Int) (x : Nat × List Int) : Prop := x.1 ≤ l.length ∧ x.2 = (l.take x.1).foldl (stepD r) D0
theorem _root_.Go.Dl.DWl.eq {ρ : Nat → Option Nat} {s : Sto} {pub : Nat → Prop} {X Y : List DV} (h : X = Y) (hall : Y.all noId1 = true) : DWl ρ s pub X Y := by rw [h]; exact DWl.same hall
theorem fill_len {n k : Nat} (h : k ≤ n) : (fillL n k).length = n := by simp [fillL]; omega
theorem fill0 (n : Nat) : (List.replicate ((n : Int).toNat) [DV.v (.int .i64 0)]).flatten = rowC (fillL n 0) := by
  rw [Int.toNat_natCast]
  simp [rowC, fillL, intD]
theorem fill_set {n k : Nat} (h : k < n) : (fillL n k).set k (-1) = fillL n (k + 1) := by
  unfold fillL
  rw [List.set_append_right _ _ (by simp), List.length_replicate, Nat.sub_self, List.replicate_succ', List.append_assoc, show n - k = (n - (k + 1)) + 1 by omega, List.replicate_succ]
  rfl
theorem fill_all (n : Nat) : fillL n n = List.replicate n (-1) := by simp [fillL]
theorem dist_out {n : Nat} {l : List Lk} {f : Int} (h : (bif decide (f < 0) then true else decide ((n : Int) ≤ f)) = true) : distT n l f = List.replicate n (-1) := by
  unfold distT
  rw [if_neg]
  rw [Bool.cond_eq_ite] at h
  split at h <;> simp at * <;> omega
theorem dist_in {n : Nat} {f : Int} (h : (bif decide (f < 0) then true else decide ((n : Int) ≤ f)) = false) : 0 ≤ f ∧ f < n := by
  rw [Bool.cond_eq_ite] at h
  split at h <;> simp at * <;> omega
theorem lt_int {k n : Nat} (h : decide ((k : Int) < (n : Int)) = true) : k < n := by simpa using h
theorem ge_int {k n : Nat} (h : decide ((k : Int) < (n : Int)) = false) : n ≤ k := by simpa using h
theorem fold_take (r : Int) (l : List Lk) (d : List Int) {k : Nat} (hk : k < l.length) : (l.take (k + 1)).foldl (stepD r) d = stepD r ((l.take k).foldl (stepD r) d) (l.getD k lk0) := by
  rw [take_succ (d := lk0) hk, List.foldl_append]; rfl
theorem distT_in {n : Nat} {l : List Lk} {f : Int} (h : 0 ≤ f ∧ f < n) : distT n l f = roundsD n l f n := by unfold distT; rw [if_pos h]
theorem rounds_zero (n : Nat) (l : List Lk) (f : Int) : (List.replicate n (-1)).set f.toNat 0 = roundsD n l f 0 := rfl
theorem rounds_succ (n : Nat) (l : List Lk) (f : Int) (k : Nat) : roundsD n l f (k + 1) = roundD l (roundsD n l f k) k := by
  rw [roundsD, List.range_succ, List.foldl_append]; rfl
theorem noc {n k : Nat} {D : List Int} {b : Int} {c : Bool} {w : Int} {Q : Prop} (hD : D.length = n) (hw : w = (k : Int) + 1) (hb : 0 ≤ b ∧ b < n) (h : (bif (D.set (b.toNat * 1) w).getD (b.toNat * 1) 0 == (k : Int) then c else false) = true) : Q := by
  exfalso
  rw [List.getD_eq_getElem?_getD, List.getElem?_set_self (by omega), Option.getD_some, hw] at h
  have : ((k : Int) + 1 == (k : Int)) = false := by simp; omega
  rw [this] at h
  cases h
theorem mul1 (n : Nat) : n * 1 = n := Nat.mul_one n
theorem step_ff {D : List Int} {x : Lk} {k : Nat} (h1 : (bif D.getD (x.1.toNat * 1) 0 == (k : Int) then decide (D.getD (x.2.toNat * 1) 0 < 0) else false) = false)
    (h2 : (bif D.getD (x.2.toNat * 1) 0 == (k : Int) then decide (D.getD (x.1.toNat * 1) 0 < 0) else false) = false) : rowC D = rowC (stepD k D x) := by
  rw [mul1, mul1] at h1 h2
  have e : relax k D x.1.toNat x.2.toNat = D := by unfold relax; rw [if_neg (by unfold relaxT; rw [h1]; exact Bool.false_ne_true)]
  unfold stepD
  rw [e]
  unfold relax
  rw [if_neg (by unfold relaxT; rw [h2]; exact Bool.false_ne_true)]
theorem step_ft {D : List Int} {x : Lk} {k : Nat} {w : Int} (hw : w = (k : Int) + 1) (h1 : (bif D.getD (x.1.toNat * 1) 0 == (k : Int) then decide (D.getD (x.2.toNat * 1) 0 < 0) else false) = false)
    (h2 : (bif D.getD (x.2.toNat * 1) 0 == (k : Int) then decide (D.getD (x.1.toNat * 1) 0 < 0) else false) = true) : setMany (rowC D) (x.1.toNat * 1) [.v (.int .i64 w)] = rowC (stepD k D x) := by
  rw [mul1] at *
  rw [mul1] at h1 h2
  have e : relax k D x.1.toNat x.2.toNat = D := by unfold relax; rw [if_neg (by unfold relaxT; rw [h1]; exact Bool.false_ne_true)]
  unfold stepD
  rw [e, rowC_set, hw]
  unfold relax
  rw [if_pos (by unfold relaxT; exact h2)]
theorem step_tf {D : List Int} {x : Lk} {k : Nat} {w : Int} (hw : w = (k : Int) + 1) (h1 : (bif D.getD (x.1.toNat * 1) 0 == (k : Int) then decide (D.getD (x.2.toNat * 1) 0 < 0) else false) = true)
    (h2 : (bif (D.set (x.2.toNat * 1) w).getD (x.2.toNat * 1) 0 == (k : Int) then decide ((D.set (x.2.toNat * 1) w).getD (x.1.toNat * 1) 0 < 0) else false) = false) : setMany (rowC D) (x.2.toNat * 1) [.v (.int .i64 w)] = rowC (stepD k D x) := by
  rw [mul1, mul1] at h1 h2
  rw [mul1]
  subst hw
  have e : relax k D x.1.toNat x.2.toNat = D.set x.2.toNat ((k : Int) + 1) := by unfold relax; rw [if_pos (by unfold relaxT; exact h1)]
  unfold stepD
  rw [e, rowC_set]
  unfold relax
  rw [if_neg (by unfold relaxT; rw [h2]; exact Bool.false_ne_true)]
attribute [local irreducible] rowC stepD roundsD relax fillL distT
set_option maxRecDepth 20000 in
theorem dist25_D (n : Nat) (l : List Lk) (f : Int) (hn : n ≤ 1000) (hl : inN n l) : DPure Try.prog 25 [int1 n, links l, int1 f] (ints (distT n l f)) := by
  refine DFun.bound 1 rfl fun ha => ?_
  have ha : l.length ≤ 9223372036854775807 := by simpa [maxLen] using ha
  refine DFun.data (DFun.body Try.func25 rfl (by kernel_rfl) ?_)
  repeat' (first | with_reducible rfl | ((conv => whnf); first | refine And.intro ?_ ?_ | (intro h; first | exact Bool.noConfusion h | with_reducible exact h | (have ht : true = true := h; clear ht h) | skip) | ((with_reducible refine DWl.mark ?_); repeat' (first | refine DWl.cons ?_ ?_ | exact DWl.nil | exact DW.same _ rfl | exact DW.ref _ _ _ rfl | exact DW.arr _ _ _ rfl | exact DW.sub _ _ _ _ rfl | exact DW.nilLst _ | refine DW.aggl ?_ | refine DW.tupl ?_ | refine DW.clol ?_ ?_ | refine DW.int ?_ | refine DW.bool ?_ | refine DW.str ?_)) | ((with_reducible refine Tri.mark ?_); first | (refine Tri.at (8) (int1 0) (by rfl) ?_; refine Tri.loop (fillSt25 n l f) ((· ≤ n)) (fun k => n - k) (0) (by kernel_rfl) (Weak.list [(0, some 0)] [] ?_ ?_ ?_) ?_ ?_) | (refine Tri.at (9) (int1 0) (by rfl) ?_; refine Tri.loop (rndSt25 n l f) ((· ≤ n)) (fun k => n - k) (0) (by kernel_rfl) (Weak.list [(0, some 0)] [] ?_ ?_ ?_) ?_ ?_)) | ((with_reducible refine Round.mark ?_); first | refine Round.go ((· + 1)) ?_ ?_ (Weak.list [(0, some 0)] [] ?_ ?_ ?_)) | refine dloadE_map (lk0) ?_ ?_ | refine dcell_set ?_ ?_ | refine dcell_row ?_ ?_ | refine dcell_ok rfl ?_ | refine AppC.new ?_))
  all_goals first | (with_reducible refine enters_mark ?_; kernel_rfl) | (with_reducible refine boolT_mark ?_; kernel_rfl) | rfl | trivial | assumption | exact Nat.le_of_ble_eq_true rfl | (show entersB _ _ = true; kernel_rfl) | exact DW.same _ rfl | exact DW.ref _ _ _ rfl | exact DW.arr _ _ _ rfl | refine DW.int ?_ | refine dvb ?_ | refine dvi ?_ | exact OW.cells rfl rfl (DWl.same rfl) | exact Nat.zero_le _ | omega | skip
  all_goals repeat' (first | refine OW.cells rfl rfl ?_ | exact DW.nilArr _ rfl | refine DWl.cons ?_ ?_ | exact DWl.nil | exact DW.same _ rfl | exact DW.ref _ _ _ rfl | exact DW.arr _ _ _ rfl | exact DW.sub _ _ _ _ rfl | exact DW.nilLst _ | refine DW.aggl ?_ | refine DW.tupl ?_ | refine DW.clol ?_ ?_)
  all_goals try ((conv => whnf); with_reducible first | refine Round.mark ?_ | refine Tells.mark ?_ | refine Retold.mark ?_)
  all_goals try first | (show (_ : Bool) = _; simp_all; done) | (show (_ : Int) < _; simp at *; omega) | (show (_ : Int) ≤ _; simp at *; omega) | (show (_ : Nat) < _; simp at *; omega) | (show (_ : Nat) ≤ _; simp at *; omega)
  · show (n : Int) * 8 ≤ _
    omega
  · exact DWl.eq (fill0 n) (rowC_all _)
  · rename_i k hk
    show (k : Int).toNat * 1 + 1 ≤ (rowC (fillL n k)).length
    have := lt_int h
    rw [rowC_len, fill_len hk]; omega
  · exact wsucc (lt_int h) (by omega)
  · rename_i k hk
    refine DWl.eq ?_ (rowC_all _)
    show setMany (rowC (fillL n k)) ((k : Int).toNat * 1) [.v (.int .i64 (-1))] = _
    rw [rowC_set, Int.toNat_natCast, Nat.mul_one, fill_set (lt_int h)]
  · rename_i k hk e0
    have : k = n := by have := ge_int e0; omega
    subst this
    exact Tells.of (r1 := ints (fillL k k)) (by rw [fill_all, dist_out h]) (Tells.mk (DW.pubM rfl (fill_len (Nat.le_refl _)) rfl rfl (intsRow _) (rowC_eq _)))
  · rename_i k hk e0
    show f.toNat * 1 + 1 ≤ (rowC (fillL n k)).length
    have := dist_in h
    rw [rowC_len, fill_len hk]; omega
  · rename_i k hk e0
    refine DWl.eq ?_ (rowC_all _)
    show setMany (rowC (fillL n k)) (f.toNat * 1) [.v (.int .i64 0)] = _
    have : k = n := by have := ge_int e0; omega
    subst this
    rw [rowC_set, Nat.mul_one, fill_all, rounds_zero]
  · rename_i k0 hk0 e0 e1 k hk
    have hkn := lt_int h
    conv => whnf
    refine Tri.loop (linSt25 n l k) (linPre l k (roundsD n l f k)) (fun x => l.length - x.1) (0, roundsD n l f k) (by kernel_rfl) (Weak.list [(0, some 0)] [] (by kernel_rfl) ?_ ?_) ⟨Nat.zero_le _, rfl⟩ ?_
    · repeat' (first | exact DWl.eq rfl (rowC_all _) | exact DW.same _ rfl | exact DW.ref _ _ _ rfl | exact DW.arr _ _ _ rfl | exact OW.cells rfl rfl (DWl.same rfl) | refine OW.cells rfl rfl ?_ | refine DWl.cons ?_ ?_ | exact DWl.nil | exact DW.nilArr _ rfl | exact DW.nilLst _ | refine DW.clol ?_ ?_ | refine DW.aggl ?_ | refine DW.tupl ?_ | refine DW.int ?_ | refine DW.bool ?_ | refine DW.str ?_ | refine DW.arrE rfl ?_ | ((conv => whnf); first | refine And.intro ?_ ?_ | trivial))
    · repeat' (first | exact DWl.eq rfl (rowC_all _) | exact DW.same _ rfl | exact DW.ref _ _ _ rfl | exact DW.arr _ _ _ rfl | exact OW.cells rfl rfl (DWl.same rfl) | refine OW.cells rfl rfl ?_ | refine DWl.cons ?_ ?_ | exact DWl.nil | exact DW.nilArr _ rfl | exact DW.nilLst _ | refine DW.clol ?_ ?_ | refine DW.aggl ?_ | refine DW.tupl ?_ | refine DW.int ?_ | refine DW.bool ?_ | refine DW.str ?_ | refine DW.arrE rfl ?_ | ((conv => whnf); first | refine And.intro ?_ ?_ | trivial))
    intro ⟨i, D⟩ ⟨hi, hD⟩
    have hi : i ≤ l.length := hi
    have hD : D = (l.take i).foldl (stepD k) (roundsD n l f k) := hD
    have hDl : D.length = n := by rw [hD, foldD_len, roundsD_len]
    have hA : i < l.length → (0 ≤ (l.getD ((i : Nat) : Int).toNat lk0).1 ∧ (l.getD ((i : Nat) : Int).toNat lk0).1 < n) ∧ (0 ≤ (l.getD ((i : Nat) : Int).toNat lk0).2 ∧ (l.getD ((i : Nat) : Int).toNat lk0).2 < n) := hl i
    have hw : IntKind.i64.wrap ((k : Int) + 1) = (k : Int) + 1 := wrapI (by omega) (by omega)
    rcases Nat.lt_or_ge i l.length with hlt | hge
    · have hA := hA hlt
      have hli : ((i : Nat) : Int) < ((l.map linkD).length : Nat) := by rw [List.length_map]; omega
      show dcode _ _ _ _ (linS25 n l k i D) _
      repeat' (first | with_reducible rfl | ((conv => whnf); first | refine And.intro ?_ ?_ | (intro h; first | exact Bool.noConfusion h | with_reducible exact h | (with_reducible exact noc hDl hw hA.2 h) | (with_reducible exact absurd hlt (Nat.not_lt.2 (ge_of_test h))) | (have ht : true = true := h; clear ht h) | skip) | ((with_reducible refine DWl.mark ?_); repeat' (first | refine DWl.cons ?_ ?_ | exact DWl.nil | exact DW.same _ rfl | exact DW.ref _ _ _ rfl | exact DW.arr _ _ _ rfl | exact DW.sub _ _ _ _ rfl | exact DW.nilLst _ | refine DW.aggl ?_ | refine DW.tupl ?_ | refine DW.clol ?_ ?_ | refine DW.int ?_ | refine DW.bool ?_ | refine DW.str ?_)) | refine dloadE_map (lk0) ?_ ?_ | refine dcell_set ?_ ?_ | refine dcell_row ?_ ?_ | refine dcell_ok rfl ?_ | refine AppC.new ?_))
      all_goals try ((conv => whnf); with_reducible refine Round.mark ?_)
      all_goals try first | (show _ ≤ (rowC D).length; rw [rowC_len]; omega) | ((with_reducible show Option.isSome (slElem _ _) = true); kernel_rfl) | ((with_reducible show slElem _ _ = some _); kernel_rfl) | ((with_reducible refine enters_mark ?_); kernel_rfl) | (with_reducible assumption) | ((with_reducible show List.all _ DV.one = true); rfl) | ((with_reducible show (_ : Nat) = _); rfl) | ((with_reducible show (_ == true) = true); simpa using h) | ((with_reducible show (_ : Nat) ≤ _); exact Nat.le_of_ble_eq_true rfl) | ((with_reducible show (_ : Int) ≤ _); first | omega | decide) | ((with_reducible show (_ : Int) < _); first | omega | decide) | ((with_reducible show (_ : Nat) < _); omega) | ((with_reducible show (_ : Nat) ≤ _); omega)
      · rename_i e2 e3
        refine Round.go (fun _ => (i + 1, stepD k D (l.getD i lk0))) ⟨hlt, by show stepD k D _ = _; rw [fold_take _ _ _ hlt, ← hD]⟩ (by show l.length - (i + 1) < l.length - i; omega) (Weak.list [(0, some 0)] [] (by kernel_rfl) ?_ ?_)
        · repeat' (first | exact wsucc hlt ha | exact DWl.eq (step_tf hw e3 h) (rowC_all _) | exact DW.same _ rfl | exact DW.ref _ _ _ rfl | exact DW.arr _ _ _ rfl | exact OW.cells rfl rfl (DWl.same rfl) | refine OW.cells rfl rfl ?_ | refine DWl.cons ?_ ?_ | exact DWl.nil | exact DW.nilArr _ rfl | exact DW.nilLst _ | refine DW.clol ?_ ?_ | refine DW.aggl ?_ | refine DW.tupl ?_ | refine DW.int ?_ | refine DW.bool ?_ | refine DW.str ?_ | refine DW.arrE rfl ?_ | ((conv => whnf); first | refine And.intro ?_ ?_ | trivial))
        · repeat' (first | exact wsucc hlt ha | exact DWl.eq (step_tf hw e3 h) (rowC_all _) | exact DW.same _ rfl | exact DW.ref _ _ _ rfl | exact DW.arr _ _ _ rfl | exact OW.cells rfl rfl (DWl.same rfl) | refine OW.cells rfl rfl ?_ | refine DWl.cons ?_ ?_ | exact DWl.nil | exact DW.nilArr _ rfl | exact DW.nilLst _ | refine DW.clol ?_ ?_ | refine DW.aggl ?_ | refine DW.tupl ?_ | refine DW.int ?_ | refine DW.bool ?_ | refine DW.str ?_ | refine DW.arrE rfl ?_ | ((conv => whnf); first | refine And.intro ?_ ?_ | trivial))
      · rename_i e2 e3
        refine Round.go (fun _ => (i + 1, stepD k D (l.getD i lk0))) ⟨hlt, by show stepD k D _ = _; rw [fold_take _ _ _ hlt, ← hD]⟩ (by show l.length - (i + 1) < l.length - i; omega) (Weak.list [(0, some 0)] [] (by kernel_rfl) ?_ ?_)
        · repeat' (first | exact wsucc hlt ha | exact DWl.eq (step_ft hw e3 h) (rowC_all _) | exact DW.same _ rfl | exact DW.ref _ _ _ rfl | exact DW.arr _ _ _ rfl | exact OW.cells rfl rfl (DWl.same rfl) | refine OW.cells rfl rfl ?_ | refine DWl.cons ?_ ?_ | exact DWl.nil | exact DW.nilArr _ rfl | exact DW.nilLst _ | refine DW.clol ?_ ?_ | refine DW.aggl ?_ | refine DW.tupl ?_ | refine DW.int ?_ | refine DW.bool ?_ | refine DW.str ?_ | refine DW.arrE rfl ?_ | ((conv => whnf); first | refine And.intro ?_ ?_ | trivial))
        · repeat' (first | exact wsucc hlt ha | exact DWl.eq (step_ft hw e3 h) (rowC_all _) | exact DW.same _ rfl | exact DW.ref _ _ _ rfl | exact DW.arr _ _ _ rfl | exact OW.cells rfl rfl (DWl.same rfl) | refine OW.cells rfl rfl ?_ | refine DWl.cons ?_ ?_ | exact DWl.nil | exact DW.nilArr _ rfl | exact DW.nilLst _ | refine DW.clol ?_ ?_ | refine DW.aggl ?_ | refine DW.tupl ?_ | refine DW.int ?_ | refine DW.bool ?_ | refine DW.str ?_ | refine DW.arrE rfl ?_ | ((conv => whnf); first | refine And.intro ?_ ?_ | trivial))
      · rename_i e2 e3
        refine Round.go (fun _ => (i + 1, stepD k D (l.getD i lk0))) ⟨hlt, by show stepD k D _ = _; rw [fold_take _ _ _ hlt, ← hD]⟩ (by show l.length - (i + 1) < l.length - i; omega) (Weak.list [(0, some 0)] [] (by kernel_rfl) ?_ ?_)
        · repeat' (first | exact wsucc hlt ha | exact DWl.eq (step_ff e3 h) (rowC_all _) | exact DW.same _ rfl | exact DW.ref _ _ _ rfl | exact DW.arr _ _ _ rfl | exact OW.cells rfl rfl (DWl.same rfl) | refine OW.cells rfl rfl ?_ | refine DWl.cons ?_ ?_ | exact DWl.nil | exact DW.nilArr _ rfl | exact DW.nilLst _ | refine DW.clol ?_ ?_ | refine DW.aggl ?_ | refine DW.tupl ?_ | refine DW.int ?_ | refine DW.bool ?_ | refine DW.str ?_ | refine DW.arrE rfl ?_ | ((conv => whnf); first | refine And.intro ?_ ?_ | trivial))
        · repeat' (first | exact wsucc hlt ha | exact DWl.eq (step_ff e3 h) (rowC_all _) | exact DW.same _ rfl | exact DW.ref _ _ _ rfl | exact DW.arr _ _ _ rfl | exact OW.cells rfl rfl (DWl.same rfl) | refine OW.cells rfl rfl ?_ | refine DWl.cons ?_ ?_ | exact DWl.nil | exact DW.nilArr _ rfl | exact DW.nilLst _ | refine DW.clol ?_ ?_ | refine DW.aggl ?_ | refine DW.tupl ?_ | refine DW.int ?_ | refine DW.bool ?_ | refine DW.str ?_ | refine DW.arrE rfl ?_ | ((conv => whnf); first | refine And.intro ?_ ?_ | trivial))
    · show dcode _ _ _ _ (linS25 n l k i D) _
      repeat' (first | with_reducible rfl | ((conv => whnf); first | refine And.intro ?_ ?_ | (intro h; first | exact Bool.noConfusion h | with_reducible exact h | (with_reducible exact absurd (lt_of_test h) (Nat.not_lt.2 hge)) | (have ht : true = true := h; clear ht h) | skip) | ((with_reducible refine DWl.mark ?_); repeat' (first | refine DWl.cons ?_ ?_ | exact DWl.nil | exact DW.same _ rfl | exact DW.ref _ _ _ rfl | exact DW.arr _ _ _ rfl | exact DW.sub _ _ _ _ rfl | exact DW.nilLst _ | refine DW.aggl ?_ | refine DW.tupl ?_ | refine DW.clol ?_ ?_ | refine DW.int ?_ | refine DW.bool ?_ | refine DW.str ?_)) | refine dcell_ok rfl ?_ | refine AppC.new ?_))
      all_goals try ((conv => whnf); with_reducible refine Round.mark ?_)
      all_goals try first | ((with_reducible show Option.isSome (slElem _ _) = true); kernel_rfl) | ((with_reducible show slElem _ _ = some _); kernel_rfl) | ((with_reducible refine enters_mark ?_); kernel_rfl) | (with_reducible assumption) | ((with_reducible show List.all _ DV.one = true); rfl) | ((with_reducible show (_ : Nat) = _); rfl) | ((with_reducible show (_ == true) = true); simpa using h) | ((with_reducible show (_ : Nat) ≤ _); exact Nat.le_of_ble_eq_true rfl) | ((with_reducible show (_ : Int) ≤ _); first | omega | decide) | ((with_reducible show (_ : Int) < _); first | omega | decide) | ((with_reducible show (_ : Nat) < _); omega) | ((with_reducible show (_ : Nat) ≤ _); omega)
      refine Round.go (· + 1) hkn (by show n - (k + 1) < n - k; omega) (Weak.list [(0, some 0)] [] (by kernel_rfl) ?_ ?_)
      · repeat' (first | exact wsucc hkn (by omega) | exact DWl.eq (congrArg rowC (by rw [hD, List.take_of_length_le hge, rounds_succ]; rfl)) (rowC_all _) | exact DW.same _ rfl | exact DW.ref _ _ _ rfl | exact DW.arr _ _ _ rfl | exact OW.cells rfl rfl (DWl.same rfl) | refine OW.cells rfl rfl ?_ | refine DWl.cons ?_ ?_ | exact DWl.nil | exact DW.nilArr _ rfl | exact DW.nilLst _ | refine DW.clol ?_ ?_ | refine DW.aggl ?_ | refine DW.tupl ?_ | refine DW.int ?_ | refine DW.bool ?_ | refine DW.str ?_ | refine DW.arrE rfl ?_ | ((conv => whnf); first | refine And.intro ?_ ?_ | trivial))
      · repeat' (first | exact wsucc hkn (by omega) | exact DWl.eq (congrArg rowC (by rw [hD, List.take_of_length_le hge, rounds_succ]; rfl)) (rowC_all _) | exact DW.same _ rfl | exact DW.ref _ _ _ rfl | exact DW.arr _ _ _ rfl | exact OW.cells rfl rfl (DWl.same rfl) | refine OW.cells rfl rfl ?_ | refine DWl.cons ?_ ?_ | exact DWl.nil | exact DW.nilArr _ rfl | exact DW.nilLst _ | refine DW.clol ?_ ?_ | refine DW.aggl ?_ | refine DW.tupl ?_ | refine DW.int ?_ | refine DW.bool ?_ | refine DW.str ?_ | refine DW.arrE rfl ?_ | ((conv => whnf); first | refine And.intro ?_ ?_ | trivial))
  · rename_i k0 hk0 e0 e1 k hk
    have : k = n := by have := ge_int h; omega
    subst this
    exact Tells.of (r1 := ints (roundsD k l f k)) (by rw [distT_in (dist_in e1)]) (Tells.mk (DW.pubM rfl (roundsD_len _ _ _ _) rfl rfl (intsRow _) (rowC_eq _)))
end Go.Proofs.Ytphgcgggbbcjgaa

/- How far each node is from one: the program's answer. -/
namespace Go.Proofs.Ytphgcgggbbcjgaa
open Go.RowKit Go.Dl
attribute [local irreducible] Tri SCall DFun QSem PCall GCall MCall Round Weak dloadE OW DWl Tells Retold ESem

def cntD (D : List Int) : Nat := D.countP fun x => decide (0 ≤ x)
theorem cnt_set {D : List Int} {b : Nat} {w : Int} (hb : b < D.length) (h : D.getD b 0 < 0) (hw : 0 ≤ w) : cntD (D.set b w) = cntD D + 1 := by
  unfold cntD
  induction D generalizing b with
  | nil => simp at hb
  | cons x D ih =>
    cases b with
    | zero =>
      simp at h
      simp [List.countP_cons, show ¬ 0 ≤ x by omega, hw]
    | succ b =>
      simp only [List.set_cons_succ, List.countP_cons]
      rw [ih (by simpa using hb) (by simpa using h)]
      omega
theorem relax_cnt {r : Nat} {D : List Int} {a b : Nat} (hb : b < D.length) : cntD D ≤ cntD (relax r D a b) := by
  unfold relax
  split
  · rename_i h
    unfold relaxT at h
    have : D.getD b 0 < 0 := by
      cases hh : D.getD a 0 == (r : Int) <;> rw [hh] at h <;> simp at h
      simpa using h
    rw [cnt_set hb this (by omega)]; omega
  · exact Nat.le_refl _
theorem relax_le {r : Nat} {D : List Int} {a b : Nat} {m : Int} (hm : (r : Int) + 1 ≤ m) (h : ∀ x ∈ D, x ≤ m) : ∀ x ∈ relax r D a b, x ≤ m := by
  unfold relax
  split
  · intro x hx
    rcases List.mem_or_eq_of_mem_set hx with h1 | h1
    · exact h x h1
    · omega
  · exact h
theorem fold_le {r : Nat} {m : Int} (hm : (r : Int) + 1 ≤ m) (l : List Lk) : ∀ D : List Int, (∀ x ∈ D, x ≤ m) → ∀ x ∈ l.foldl (stepD r) D, x ≤ m := by
  induction l with
  | nil => intro D h; exact h
  | cons y l ih => intro D h; exact ih _ (relax_le hm (relax_le hm h))
theorem rounds_le (n : Nat) (l : List Lk) (f : Int) (k : Nat) : ∀ x ∈ roundsD n l f k, x ≤ (k : Int) := by
  induction k with
  | zero =>
    intro x hx
    rcases List.mem_or_eq_of_mem_set hx with h1 | h1
    · have := (List.mem_replicate.1 h1).2; omega
    · omega
  | succ k ih =>
    rw [rounds_succ]
    exact fold_le (by omega) l _ fun x hx => by have := ih x hx; omega
theorem relax_none {r : Nat} {D : List Int} {a b : Nat} (ha : a < D.length) (h : ∀ x ∈ D, x < (r : Int)) : relax r D a b = D := by
  unfold relax
  rw [if_neg]
  unfold relaxT
  have h1 : D.getD a 0 < r := by
    rw [List.getD_eq_getElem?_getD, List.getElem?_eq_getElem ha]; exact h _ (List.getElem_mem ha)
  have : (D.getD a 0 == (r : Int)) = false := by simp only [beq_eq_false_iff_ne]; omega
  rw [this]; exact Bool.false_ne_true
theorem round_none {r : Nat} {D : List Int} {l : List Lk} (hl : inN D.length l) (h : ∀ x ∈ D, x < (r : Int)) : roundD l D r = D := by
  unfold roundD
  induction l with
  | nil => rfl
  | cons y l ih =>
    have h0 := hl 0 (by simp)
    simp only [List.getD_cons_zero] at h0
    have e : stepD r D y = D := by
      unfold stepD
      rw [relax_none (by omega) h, relax_none (by omega) h]
    rw [List.foldl_cons, e]
    exact ih fun i hi => by have := hl (i + 1) (by simpa using hi); simpa using this
theorem rounds_stay {n : Nat} {l : List Lk} {f : Int} {k : Nat} (hl : inN n l) (h : roundD l (roundsD n l f k) k = roundsD n l f k) : ∀ j, roundsD n l f (k + j) = roundsD n l f k := fun j => by
  induction j with
  | zero => rfl
  | succ j ih =>
    rw [← Nat.add_assoc, rounds_succ, ih]
    cases j with
    | zero => exact h
    | succ j => exact round_none (by rw [roundsD_len]; exact hl) fun x hx => by have := rounds_le n l f k x hx; omega

def fillSt18 (n : Nat) (l : List Lk) (f : Int) (k : Nat) : St := ⟨0, tmOf [(0, int1 n), (1, links l), (2, int1 f), (7, .arr 0 n), (18, int1 n), (19, int1 k)], .of [(0, ⟨3, 1, rowC (fillL n k)⟩)] 1⟩
def rndSt18 (n : Nat) (l : List Lk) (f : Int) (k : Nat) : St := ⟨0, tmOf [(0, int1 n), (1, links l), (7, .arr 0 n), (9, int1 k)], .of [(0, ⟨3, 1, rowC (roundsD n l f k)⟩)] 1⟩
def linS18 (n : Nat) (l : List Lk) (r i : Nat) (D : List Int) (m : Bool) : St := ⟨0, tmOf [(0, int1 n), (1, links l), (7, .arr 0 n), (9, int1 r), (10, .v (.bool m)), (39, links l), (40, int1 (l.map linkD).length), (41, int1 i)], .of [(0, ⟨3, 1, rowC D⟩)] 1⟩
def linSt18 (n : Nat) (l : List Lk) (r : Nat) (x : Nat × List Int × Bool) : St := linS18 n l r x.1 x.2.1 x.2.2
def linPre18 (l : List Lk) (r : Nat) (D0 : List Int) (x : Nat × List Int × Bool) : Prop := x.1 ≤ l.length ∧ x.2.1 = (l.take x.1).foldl (stepD r) D0 ∧ (x.2.2 = false → x.2.1 = D0) ∧ (x.2.2 = true → cntD D0 + 1 ≤ cntD x.2.1)
def rndPre18 (n : Nat) (l : List Lk) (f : Int) (k : Nat) : Prop := k + 1 ≤ cntD (roundsD n l f k)
theorem cnt_le {n : Nat} {l : List Lk} {f : Int} {k : Nat} : cntD (roundsD n l f k) ≤ n := by
  have h : cntD (roundsD n l f k) ≤ (roundsD n l f k).length := List.countP_le_length
  rwa [roundsD_len] at h
theorem cnt_start {n : Nat} {l : List Lk} {f : Int} (hf : 0 ≤ f ∧ f < n) : rndPre18 n l f 0 := by
  show 1 ≤ cntD ((List.replicate n (-1)).set f.toNat 0)
  rw [cnt_set (by simp; omega) (by rw [List.getD_eq_getElem?_getD, List.getElem?_replicate, if_pos (by omega)]; decide) (by decide)]
  omega
theorem relax_yes {D : List Int} {k a b : Nat} (h : (bif D.getD a 0 == (k : Int) then decide (D.getD b 0 < 0) else false) = true) : relax k D a b = D.set b ((k : Int) + 1) ∧ D.getD b 0 < 0 := by
  refine ⟨by unfold relax; rw [if_pos (by unfold relaxT; exact h)], ?_⟩
  cases hh : D.getD a 0 == (k : Int) <;> rw [hh] at h <;> simp at h
  simpa using h
theorem relax_no {D : List Int} {k a b : Nat} (h : (bif D.getD a 0 == (k : Int) then decide (D.getD b 0 < 0) else false) = false) : relax k D a b = D := by
  unfold relax; rw [if_neg (by unfold relaxT; rw [h]; exact Bool.false_ne_true)]
theorem step_same {D : List Int} {x : Lk} {k : Nat} (h1 : (bif D.getD (x.1.toNat * 1) 0 == (k : Int) then decide (D.getD (x.2.toNat * 1) 0 < 0) else false) = false)
    (h2 : (bif D.getD (x.2.toNat * 1) 0 == (k : Int) then decide (D.getD (x.1.toNat * 1) 0 < 0) else false) = false) : stepD k D x = D := by
  rw [mul1, mul1] at h1 h2
  unfold stepD
  rw [relax_no h1, relax_no h2]
theorem cnt_tf {D : List Int} {x : Lk} {k : Nat} (ha : x.1.toNat < D.length) (hb : x.2.toNat < D.length) (h1 : (bif D.getD (x.1.toNat * 1) 0 == (k : Int) then decide (D.getD (x.2.toNat * 1) 0 < 0) else false) = true) : cntD D + 1 ≤ cntD (stepD k D x) := by
  rw [mul1, mul1] at h1
  obtain ⟨e1, e2⟩ := relax_yes h1
  unfold stepD
  refine Nat.le_trans ?_ (relax_cnt (by rw [relax_len]; exact ha))
  rw [e1, cnt_set hb e2 (by omega)]; omega
theorem cnt_ft {D : List Int} {x : Lk} {k : Nat} (ha : x.1.toNat < D.length) (h1 : (bif D.getD (x.1.toNat * 1) 0 == (k : Int) then decide (D.getD (x.2.toNat * 1) 0 < 0) else false) = false)
    (h2 : (bif D.getD (x.2.toNat * 1) 0 == (k : Int) then decide (D.getD (x.1.toNat * 1) 0 < 0) else false) = true) : cntD D + 1 ≤ cntD (stepD k D x) := by
  rw [mul1, mul1] at h1 h2
  obtain ⟨e1, e2⟩ := relax_yes h2
  unfold stepD
  rw [relax_no h1, e1, cnt_set ha e2 (by omega)]; omega
theorem OwnR.mark {n : Nat} {D : List Int} {r : DV} {s : Sto} (h : OwnR n D r s) : OwnR n D r s := h
theorem notT {b : Bool} {Q : Prop} (h : b = true) (h' : b = false) : Q := by rw [h'] at h; cases h
theorem notF {b : Bool} {Q : Prop} (h : b = false) (h' : b = true) : Q := by rw [h'] at h; cases h
attribute [local irreducible] rowC stepD roundsD relax fillL distT cntD OwnR
set_option maxRecDepth 100000 in
set_option maxHeartbeats 1000000 in
theorem dist18_O (n : Nat) (l : List Lk) (f : Int) (hn : n ≤ 1000) (hl : inN n l) : DFun Try.prog 18 [int1 n, links l, int1 f] (OwnR n (distT n l f)) := by
  refine DFun.bound 1 rfl fun ha => ?_
  have ha : l.length ≤ 9223372036854775807 := by simpa [maxLen] using ha
  refine DFun.body Try.func18 rfl (by kernel_rfl) ?_
  repeat' (first | with_reducible rfl | ((conv => whnf); first | refine And.intro ?_ ?_ | (intro h; first | exact Bool.noConfusion h | with_reducible exact h | (have ht : true = true := h; clear ht h) | skip) | ((with_reducible refine DWl.mark ?_); repeat' (first | refine DWl.cons ?_ ?_ | exact DWl.nil | exact DW.same _ rfl | exact DW.ref _ _ _ rfl | exact DW.arr _ _ _ rfl | exact DW.sub _ _ _ _ rfl | exact DW.nilLst _ | refine DW.aggl ?_ | refine DW.tupl ?_ | refine DW.clol ?_ ?_ | refine DW.int ?_ | refine DW.bool ?_ | refine DW.str ?_)) | ((with_reducible refine Tri.mark ?_); first | refine Tri.scope (by kernel_rfl) ?_ | (refine Tri.at (19) (int1 0) (by rfl) ?_; refine Tri.loop (fillSt18 n l f) ((· ≤ n)) (fun k => n - k) (0) (by kernel_rfl) (Weak.list [(0, some 0)] [] ?_ ?_ ?_) ?_ ?_) | (refine Tri.at (9) (int1 0) (by rfl) ?_; refine Tri.loop (rndSt18 n l f) (rndPre18 n l f) (fun k => n - k) (0) (by kernel_rfl) (Weak.list [(0, some 0)] [] ?_ ?_ ?_) ?_ ?_)) | refine dloadE_map (lk0) ?_ ?_ | refine dcell_set ?_ ?_ | refine dcell_row ?_ ?_ | refine dcell_ok rfl ?_ | refine AppC.new ?_))
  all_goals first | (with_reducible refine enters_mark ?_; kernel_rfl) | (with_reducible refine boolT_mark ?_; kernel_rfl) | rfl | trivial | assumption | exact Nat.le_of_ble_eq_true rfl | (show entersB _ _ = true; kernel_rfl) | exact DW.same _ rfl | exact DW.ref _ _ _ rfl | exact DW.arr _ _ _ rfl | refine DW.int ?_ | refine dvb ?_ | refine dvi ?_ | exact OW.cells rfl rfl (DWl.same rfl) | exact Nat.zero_le _ | omega | skip
  all_goals repeat' (first | refine OW.cells rfl rfl ?_ | exact DW.nilArr _ rfl | refine DWl.cons ?_ ?_ | exact DWl.nil | exact DW.same _ rfl | exact DW.ref _ _ _ rfl | exact DW.arr _ _ _ rfl | exact DW.sub _ _ _ _ rfl | exact DW.nilLst _ | refine DW.aggl ?_ | refine DW.tupl ?_ | refine DW.clol ?_ ?_)
  all_goals try ((conv => whnf); with_reducible first | refine Round.mark ?_ | refine Tells.mark ?_ | refine Retold.mark ?_)
  all_goals try first | (show (_ : Bool) = _; simp_all; done) | (show (_ : Int) < _; simp at *; omega) | (show (_ : Int) ≤ _; simp at *; omega) | (show (_ : Nat) < _; simp at *; omega) | (show (_ : Nat) ≤ _; simp at *; omega)
  · show (n : Int) * 8 ≤ _
    omega
  · exact DWl.eq (fill0 n) (rowC_all _)
  · rename_i k hk
    show (k : Int).toNat * 1 + 1 ≤ (rowC (fillL n k)).length
    have := lt_int h
    rw [rowC_len, fill_len hk]; omega
  · rename_i k hk
    refine Round.go (· + 1) (lt_int h) (by have := lt_int h; show n - (k + 1) < n - k; omega) (Weak.list [(0, some 0)] [] (by kernel_rfl) ?_ ?_)
    · repeat' (first | exact wsucc (lt_int h) (by omega) | exact DWl.eq ((rowC_set _ _ _).trans (congrArg rowC (by rw [Int.toNat_natCast, Nat.mul_one]; exact fill_set (lt_int h)))) (rowC_all _) | exact DW.same _ rfl | exact DW.ref _ _ _ rfl | exact DW.arr _ _ _ rfl | exact OW.cells rfl rfl (DWl.same rfl) | refine OW.cells rfl rfl ?_ | refine DWl.cons ?_ ?_ | exact DWl.nil | exact DW.nilArr _ rfl | exact DW.nilLst _ | refine DW.clol ?_ ?_ | refine DW.aggl ?_ | refine DW.tupl ?_ | refine DW.int ?_ | refine DW.bool ?_ | refine DW.str ?_ | refine DW.arrE rfl ?_ | ((conv => whnf); first | refine And.intro ?_ ?_ | trivial))
    · repeat' (first | exact wsucc (lt_int h) (by omega) | exact DWl.eq ((rowC_set _ _ _).trans (congrArg rowC (by rw [Int.toNat_natCast, Nat.mul_one]; exact fill_set (lt_int h)))) (rowC_all _) | exact DW.same _ rfl | exact DW.ref _ _ _ rfl | exact DW.arr _ _ _ rfl | exact OW.cells rfl rfl (DWl.same rfl) | refine OW.cells rfl rfl ?_ | refine DWl.cons ?_ ?_ | exact DWl.nil | exact DW.nilArr _ rfl | exact DW.nilLst _ | refine DW.clol ?_ ?_ | refine DW.aggl ?_ | refine DW.tupl ?_ | refine DW.int ?_ | refine DW.bool ?_ | refine DW.str ?_ | refine DW.arrE rfl ?_ | ((conv => whnf); first | refine And.intro ?_ ?_ | trivial))
  · rename_i k hk e0
    have : k = n := by have := ge_int e0; omega
    subst this
    conv => whnf
    exact OwnR.of (by rw [fill_all, dist_out h])
  · rename_i k hk e0
    show f.toNat * 1 + 1 ≤ (rowC (fillL n k)).length
    have := dist_in h
    rw [rowC_len, fill_len hk]; omega
  · rename_i k hk e0
    refine DWl.eq ?_ (rowC_all _)
    show setMany (rowC (fillL n k)) (f.toNat * 1) [.v (.int .i64 0)] = _
    have : k = n := by have := ge_int e0; omega
    subst this
    rw [rowC_set, Nat.mul_one, fill_all, rounds_zero]
  · exact cnt_start (dist_in h)
  · rename_i k0 hk0 e0 e1 k
    have hk : k + 1 ≤ cntD (roundsD n l f k) := h
    have hkn : k + 1 ≤ n := Nat.le_trans hk cnt_le
    conv => whnf
    refine Tri.loop (linSt18 n l k) (linPre18 l k (roundsD n l f k)) (fun x => l.length - x.1) (0, roundsD n l f k, false) (by kernel_rfl) (Weak.list [(0, some 0)] [] (by kernel_rfl) ?_ ?_) ⟨Nat.zero_le _, rfl, fun _ => rfl, fun h => by cases h⟩ ?_
    · repeat' (first | exact DWl.eq rfl (rowC_all _) | exact DW.same _ rfl | exact DW.ref _ _ _ rfl | exact DW.arr _ _ _ rfl | exact OW.cells rfl rfl (DWl.same rfl) | refine OW.cells rfl rfl ?_ | refine DWl.cons ?_ ?_ | exact DWl.nil | exact DW.nilArr _ rfl | exact DW.nilLst _ | refine DW.clol ?_ ?_ | refine DW.aggl ?_ | refine DW.tupl ?_ | refine DW.int ?_ | refine DW.bool ?_ | refine DW.str ?_ | refine DW.arrE rfl ?_ | ((conv => whnf); first | refine And.intro ?_ ?_ | trivial))
    · repeat' (first | exact DWl.eq rfl (rowC_all _) | exact DW.same _ rfl | exact DW.ref _ _ _ rfl | exact DW.arr _ _ _ rfl | exact OW.cells rfl rfl (DWl.same rfl) | refine OW.cells rfl rfl ?_ | refine DWl.cons ?_ ?_ | exact DWl.nil | exact DW.nilArr _ rfl | exact DW.nilLst _ | refine DW.clol ?_ ?_ | refine DW.aggl ?_ | refine DW.tupl ?_ | refine DW.int ?_ | refine DW.bool ?_ | refine DW.str ?_ | refine DW.arrE rfl ?_ | ((conv => whnf); first | refine And.intro ?_ ?_ | trivial))
    intro ⟨i, D, m⟩ ⟨hi, hD, hm0, hm1⟩
    have hi : i ≤ l.length := hi
    have hD : D = (l.take i).foldl (stepD k) (roundsD n l f k) := hD
    have hm0 : m = false → D = roundsD n l f k := hm0
    have hm1 : m = true → cntD (roundsD n l f k) + 1 ≤ cntD D := hm1
    have hDl : D.length = n := by rw [hD, foldD_len, roundsD_len]
    have hA : i < l.length → (0 ≤ (l.getD ((i : Nat) : Int).toNat lk0).1 ∧ (l.getD ((i : Nat) : Int).toNat lk0).1 < n) ∧ (0 ≤ (l.getD ((i : Nat) : Int).toNat lk0).2 ∧ (l.getD ((i : Nat) : Int).toNat lk0).2 < n) := hl i
    have hw : IntKind.i64.wrap ((k : Int) + 1) = (k : Int) + 1 := wrapI (by omega) (by omega)
    rcases Nat.lt_or_ge i l.length with hlt | hge
    · have hA := hA hlt
      have hli : ((i : Nat) : Int) < ((l.map linkD).length : Nat) := by rw [List.length_map]; omega
      show dcode _ _ _ _ (linS18 n l k i D m) _
      repeat' (first | with_reducible rfl | ((conv => whnf); first | refine And.intro ?_ ?_ | (intro h; first | exact Bool.noConfusion h | with_reducible exact h | (with_reducible exact noc hDl hw hA.2 h) | (with_reducible exact absurd hlt (Nat.not_lt.2 (ge_of_test h))) | (refine notT h ?_; decide) | (refine notF h ?_; decide) | (have ht : true = true := h; clear ht h) | skip) | ((with_reducible refine DWl.mark ?_); repeat' (first | refine DWl.cons ?_ ?_ | exact DWl.nil | exact DW.same _ rfl | exact DW.ref _ _ _ rfl | exact DW.arr _ _ _ rfl | exact DW.sub _ _ _ _ rfl | exact DW.nilLst _ | refine DW.aggl ?_ | refine DW.tupl ?_ | refine DW.clol ?_ ?_ | refine DW.int ?_ | refine DW.bool ?_ | refine DW.str ?_)) | ((with_reducible refine Tri.mark ?_); first | refine Tri.rounds 3 (by kernel_rfl) ?_) | refine dloadE_map (lk0) ?_ ?_ | refine dcell_set ?_ ?_ | refine dcell_row ?_ ?_ | refine dcell_ok rfl ?_ | refine AppC.new ?_))
      all_goals try ((conv => whnf); with_reducible refine Round.mark ?_)
      all_goals try first | (show _ ≤ (rowC D).length; rw [rowC_len]; omega) | ((with_reducible show Option.isSome (slElem _ _) = true); kernel_rfl) | ((with_reducible show slElem _ _ = some _); kernel_rfl) | ((with_reducible refine enters_mark ?_); kernel_rfl) | (with_reducible assumption) | ((with_reducible show List.all _ DV.one = true); rfl) | ((with_reducible show (_ : Nat) = _); rfl) | ((with_reducible show (_ == true) = true); simpa using h) | ((with_reducible show (_ : Nat) ≤ _); exact Nat.le_of_ble_eq_true rfl) | ((with_reducible show (_ : Int) ≤ _); first | omega | decide) | ((with_reducible show (_ : Int) < _); first | omega | decide) | ((with_reducible show (_ : Nat) < _); omega) | ((with_reducible show (_ : Nat) ≤ _); omega)
      · rename_i c1 c2
        have hc : cntD (roundsD n l f k) ≤ cntD D := by cases m with | false => rw [hm0 rfl]; exact Nat.le_refl _ | true => have := hm1 rfl; omega
        have hx := cnt_tf (x := l.getD i lk0) (by show (l.getD ((i : Nat) : Int).toNat lk0).1.toNat < _; omega) (by show (l.getD ((i : Nat) : Int).toNat lk0).2.toNat < _; omega) c1
        refine Round.go (fun _ => (i + 1, stepD k D (l.getD i lk0), true)) ⟨hlt, by show stepD k D _ = _; rw [fold_take _ _ _ hlt, ← hD], fun h => (by cases h), fun _ => (by show _ ≤ cntD (stepD k D (l.getD i lk0)); omega)⟩ (by show l.length - (i + 1) < l.length - i; omega) (Weak.list [(0, some 0)] [] (by kernel_rfl) ?_ ?_)
        · repeat' (first | exact wsucc hlt ha | exact DWl.eq (step_tf hw c1 c2) (rowC_all _) | exact DW.same _ rfl | exact DW.ref _ _ _ rfl | exact DW.arr _ _ _ rfl | exact OW.cells rfl rfl (DWl.same rfl) | refine OW.cells rfl rfl ?_ | refine DWl.cons ?_ ?_ | exact DWl.nil | exact DW.nilArr _ rfl | exact DW.nilLst _ | refine DW.clol ?_ ?_ | refine DW.aggl ?_ | refine DW.tupl ?_ | refine DW.int ?_ | refine DW.bool ?_ | refine DW.str ?_ | refine DW.arrE rfl ?_ | ((conv => whnf); first | refine And.intro ?_ ?_ | trivial))
        · repeat' (first | exact wsucc hlt ha | exact DWl.eq (step_tf hw c1 c2) (rowC_all _) | exact DW.same _ rfl | exact DW.ref _ _ _ rfl | exact DW.arr _ _ _ rfl | exact OW.cells rfl rfl (DWl.same rfl) | refine OW.cells rfl rfl ?_ | refine DWl.cons ?_ ?_ | exact DWl.nil | exact DW.nilArr _ rfl | exact DW.nilLst _ | refine DW.clol ?_ ?_ | refine DW.aggl ?_ | refine DW.tupl ?_ | refine DW.int ?_ | refine DW.bool ?_ | refine DW.str ?_ | refine DW.arrE rfl ?_ | ((conv => whnf); first | refine And.intro ?_ ?_ | trivial))
      · rename_i c1 c2
        have hc : cntD (roundsD n l f k) ≤ cntD D := by cases m with | false => rw [hm0 rfl]; exact Nat.le_refl _ | true => have := hm1 rfl; omega
        have hx := cnt_ft (x := l.getD i lk0) (by show (l.getD ((i : Nat) : Int).toNat lk0).1.toNat < _; omega) c1 c2
        refine Round.go (fun _ => (i + 1, stepD k D (l.getD i lk0), true)) ⟨hlt, by show stepD k D _ = _; rw [fold_take _ _ _ hlt, ← hD], fun h => (by cases h), fun _ => (by show _ ≤ cntD (stepD k D (l.getD i lk0)); omega)⟩ (by show l.length - (i + 1) < l.length - i; omega) (Weak.list [(0, some 0)] [] (by kernel_rfl) ?_ ?_)
        · repeat' (first | exact wsucc hlt ha | exact DWl.eq (step_ft hw c1 c2) (rowC_all _) | exact DW.same _ rfl | exact DW.ref _ _ _ rfl | exact DW.arr _ _ _ rfl | exact OW.cells rfl rfl (DWl.same rfl) | refine OW.cells rfl rfl ?_ | refine DWl.cons ?_ ?_ | exact DWl.nil | exact DW.nilArr _ rfl | exact DW.nilLst _ | refine DW.clol ?_ ?_ | refine DW.aggl ?_ | refine DW.tupl ?_ | refine DW.int ?_ | refine DW.bool ?_ | refine DW.str ?_ | refine DW.arrE rfl ?_ | ((conv => whnf); first | refine And.intro ?_ ?_ | trivial))
        · repeat' (first | exact wsucc hlt ha | exact DWl.eq (step_ft hw c1 c2) (rowC_all _) | exact DW.same _ rfl | exact DW.ref _ _ _ rfl | exact DW.arr _ _ _ rfl | exact OW.cells rfl rfl (DWl.same rfl) | refine OW.cells rfl rfl ?_ | refine DWl.cons ?_ ?_ | exact DWl.nil | exact DW.nilArr _ rfl | exact DW.nilLst _ | refine DW.clol ?_ ?_ | refine DW.aggl ?_ | refine DW.tupl ?_ | refine DW.int ?_ | refine DW.bool ?_ | refine DW.str ?_ | refine DW.arrE rfl ?_ | ((conv => whnf); first | refine And.intro ?_ ?_ | trivial))
      · rename_i c1 c2
        have hx : stepD k D (l.getD i lk0) = D := step_same c1 c2
        refine Round.go (fun _ => (i + 1, D, m)) ⟨hlt, by show D = _; rw [fold_take _ _ _ hlt, ← hD, hx], hm0, hm1⟩ (by show l.length - (i + 1) < l.length - i; omega) (Weak.list [(0, some 0)] [] (by kernel_rfl) ?_ ?_)
        · repeat' (first | exact wsucc hlt ha | exact DWl.eq rfl (rowC_all _) | exact DW.same _ rfl | exact DW.ref _ _ _ rfl | exact DW.arr _ _ _ rfl | exact OW.cells rfl rfl (DWl.same rfl) | refine OW.cells rfl rfl ?_ | refine DWl.cons ?_ ?_ | exact DWl.nil | exact DW.nilArr _ rfl | exact DW.nilLst _ | refine DW.clol ?_ ?_ | refine DW.aggl ?_ | refine DW.tupl ?_ | refine DW.int ?_ | refine DW.bool ?_ | refine DW.str ?_ | refine DW.arrE rfl ?_ | ((conv => whnf); first | refine And.intro ?_ ?_ | trivial))
        · repeat' (first | exact wsucc hlt ha | exact DWl.eq rfl (rowC_all _) | exact DW.same _ rfl | exact DW.ref _ _ _ rfl | exact DW.arr _ _ _ rfl | exact OW.cells rfl rfl (DWl.same rfl) | refine OW.cells rfl rfl ?_ | refine DWl.cons ?_ ?_ | exact DWl.nil | exact DW.nilArr _ rfl | exact DW.nilLst _ | refine DW.clol ?_ ?_ | refine DW.aggl ?_ | refine DW.tupl ?_ | refine DW.int ?_ | refine DW.bool ?_ | refine DW.str ?_ | refine DW.arrE rfl ?_ | ((conv => whnf); first | refine And.intro ?_ ?_ | trivial))
    · have hDk : D = roundsD n l f (k + 1) := by rw [hD, List.take_of_length_le hge, rounds_succ]; rfl
      show dcode _ _ _ _ (linS18 n l k i D m) _
      repeat' (first | with_reducible rfl | ((conv => whnf); first | refine And.intro ?_ ?_ | (intro h; first | exact Bool.noConfusion h | with_reducible exact h | (with_reducible exact absurd (lt_of_test h) (Nat.not_lt.2 hge)) | (have ht : true = true := h; clear ht h) | skip) | ((with_reducible refine DWl.mark ?_); repeat' (first | refine DWl.cons ?_ ?_ | exact DWl.nil | exact DW.same _ rfl | exact DW.ref _ _ _ rfl | exact DW.arr _ _ _ rfl | exact DW.sub _ _ _ _ rfl | exact DW.nilLst _ | refine DW.aggl ?_ | refine DW.tupl ?_ | refine DW.clol ?_ ?_ | refine DW.int ?_ | refine DW.bool ?_ | refine DW.str ?_)) | refine dcell_ok rfl ?_ | refine AppC.new ?_))
      all_goals try ((conv => whnf); with_reducible first | refine Round.mark ?_ | refine OwnR.mark ?_)
      all_goals try first | ((with_reducible show Option.isSome (slElem _ _) = true); kernel_rfl) | ((with_reducible show slElem _ _ = some _); kernel_rfl) | ((with_reducible refine enters_mark ?_); kernel_rfl) | (with_reducible assumption) | ((with_reducible show List.all _ DV.one = true); rfl) | ((with_reducible show (_ : Nat) = _); rfl) | ((with_reducible show (_ == true) = true); simpa using h) | ((with_reducible show (_ : Nat) ≤ _); exact Nat.le_of_ble_eq_true rfl) | ((with_reducible show (_ : Int) ≤ _); first | omega | decide) | ((with_reducible show (_ : Int) < _); first | omega | decide) | ((with_reducible show (_ : Nat) < _); omega) | ((with_reducible show (_ : Nat) ≤ _); omega)
      · have hm : m = false := by simpa using h
        have e : D = roundsD n l f k := hm0 hm
        have e2 : distT n l f = D := by
          rw [distT_in (dist_in e1), e]
          have := rounds_stay hl (by rw [← rounds_succ, ← hDk, e]) (n - k)
          rw [← this]
          congr 1
          omega
        exact OwnR.of e2.symm
      · have hm : m = true := by simpa using h
        have hx : cntD (roundsD n l f k) + 1 ≤ cntD D := hm1 hm
        refine Round.go (· + 1) (by show k + 1 + 1 ≤ cntD (roundsD n l f (k + 1)); rw [← hDk]; omega) (by show n - (k + 1) < n - k; omega) (Weak.list [(0, some 0)] [] (by kernel_rfl) ?_ ?_)
        · repeat' (first | exact wsucc hkn (by omega) | exact DWl.eq (congrArg rowC hDk) (rowC_all _) | exact DW.same _ rfl | exact DW.ref _ _ _ rfl | exact DW.arr _ _ _ rfl | exact OW.cells rfl rfl (DWl.same rfl) | refine OW.cells rfl rfl ?_ | refine DWl.cons ?_ ?_ | exact DWl.nil | exact DW.nilArr _ rfl | exact DW.nilLst _ | refine DW.clol ?_ ?_ | refine DW.aggl ?_ | refine DW.tupl ?_ | refine DW.int ?_ | refine DW.bool ?_ | refine DW.str ?_ | refine DW.arrE rfl ?_ | ((conv => whnf); first | refine And.intro ?_ ?_ | trivial))
        · repeat' (first | exact wsucc hkn (by omega) | exact DWl.eq (congrArg rowC hDk) (rowC_all _) | exact DW.same _ rfl | exact DW.ref _ _ _ rfl | exact DW.arr _ _ _ rfl | exact OW.cells rfl rfl (DWl.same rfl) | refine OW.cells rfl rfl ?_ | refine DWl.cons ?_ ?_ | exact DWl.nil | exact DW.nilArr _ rfl | exact DW.nilLst _ | refine DW.clol ?_ ?_ | refine DW.aggl ?_ | refine DW.tupl ?_ | refine DW.int ?_ | refine DW.bool ?_ | refine DW.str ?_ | refine DW.arrE rfl ?_ | ((conv => whnf); first | refine And.intro ?_ ?_ | trivial))
theorem dist18_D (n : Nat) (l : List Lk) (f : Int) (hn : n ≤ 1000) (hl : inN n l) : DPure Try.prog 18 [int1 n, links l, int1 f] (ints (distT n l f)) := OwnR.data (distT_len n l f) (dist18_O n l f hn hl)
end Go.Proofs.Ytphgcgggbbcjgaa

/- The greatest distance. -/
namespace Go.Proofs.Ytphgcgggbbcjgaa
open Go.RowKit Go.Dl
attribute [local irreducible] Tri SCall DFun QSem PCall GCall MCall Round Weak dloadE OW DWl Tells IntKind.wrap Retold ESem

def imax (a b : Int) : Int := if a < b then b else a
def maxS (D : List Int) : Int := (D.drop 1).foldl imax (D.getD 0 0)
theorem imax_max (a b : Int) : imax a b = max a b := by unfold imax; omega
theorem foldl_imax (D : List Int) : ∀ a b, D.foldl imax (imax a b) = imax a (D.foldl imax b) := by
  induction D with
  | nil => intro a b; rfl
  | cons x D ih =>
    intro a b
    rw [List.foldl_cons, List.foldl_cons, ← ih]
    congr 1
    simp only [imax_max]; omega
theorem maxS_fold {D : List Int} (h : D ≠ []) (w : Int) : D.foldl imax w = imax w (maxS D) := by
  cases D with
  | nil => exact absurd rfl h
  | cons x D => simp [maxS, foldl_imax]
def maxSt (D : List Int) (k : Nat) : St := ⟨0, tmOf [(0, ints D), (3, int1 ((D.take k).drop 1 |>.foldl imax (D.getD 0 0))), (4, int1 k)], .of [] 0⟩
theorem max35_D (D : List Int) (hne : D ≠ []) : DPure Try.prog 35 [ints D] (int1 (maxS D)) := by
  have hpos := List.length_pos_iff.2 hne
  refine DFun.bound 0 rfl fun ha => ?_
  have ha : D.length ≤ 9223372036854775807 := by simpa [maxLen] using ha
  refine DFun.body Try.func35 rfl (by kernel_rfl) ?_
  repeat' (first | with_reducible rfl | ((conv => whnf); first | refine And.intro ?_ ?_ | (intro h; first | exact Bool.noConfusion h | with_reducible exact h | (exfalso; rw [List.length_map] at h; have h := of_decide_eq_true h; omega) | (have ht : true = true := h; clear ht h) | skip) | ((with_reducible refine DWl.mark ?_); repeat' (first | refine DWl.cons ?_ ?_ | exact DWl.nil | exact DW.same _ rfl | exact DW.ref _ _ _ rfl | exact DW.arr _ _ _ rfl | exact DW.sub _ _ _ _ rfl | exact DW.nilLst _ | refine DW.aggl ?_ | refine DW.tupl ?_ | refine DW.clol ?_ ?_ | refine DW.int ?_ | refine DW.bool ?_ | refine DW.str ?_)) | ((with_reducible refine Tri.mark ?_); first | refine Tri.loop (maxSt D) (fun k => 1 ≤ k ∧ k ≤ D.length) (fun k => D.length - k) (1) (by kernel_rfl) (Weak.list [] [] ?_ ?_ ?_) ?_ ?_) | ((with_reducible refine Round.mark ?_); first | refine Round.go ((· + 1)) ?_ ?_ (Weak.list [] [] ?_ ?_ ?_)) | refine dloadE_map (0) ?_ ?_ | refine dcell_ok rfl ?_ | refine AppC.new ?_))
  all_goals first | (with_reducible refine enters_mark ?_; kernel_rfl) | (with_reducible refine boolT_mark ?_; kernel_rfl) | rfl | trivial | assumption | exact Nat.le_of_ble_eq_true rfl | (show entersB _ _ = true; kernel_rfl) | exact DW.same _ rfl | exact DW.ref _ _ _ rfl | exact DW.arr _ _ _ rfl | refine DW.int ?_ | refine dvb ?_ | refine dvi ?_ | exact OW.cells rfl rfl (DWl.same rfl) | exact Nat.zero_le _ | omega | skip
  all_goals repeat' (first | refine OW.cells rfl rfl ?_ | exact DW.nilArr _ rfl | refine DWl.cons ?_ ?_ | exact DWl.nil | exact DW.same _ rfl | exact DW.ref _ _ _ rfl | exact DW.arr _ _ _ rfl | exact DW.sub _ _ _ _ rfl | exact DW.nilLst _ | refine DW.aggl ?_ | refine DW.tupl ?_ | refine DW.clol ?_ ?_)
  all_goals try ((conv => whnf); with_reducible first | refine Round.mark ?_ | refine Tells.mark ?_ | refine Retold.mark ?_)
  all_goals try first | (show (_ : Bool) = _; simp_all; done) | (show (_ : Int) < _; simp at *; omega) | (show (_ : Int) ≤ _; simp at *; omega) | (show (_ : Nat) < _; simp at *; omega) | (show (_ : Nat) ≤ _; simp at *; omega)
  · show D.getD 0 0 = _
    cases D with
    | nil => exact absurd rfl hne
    | cons x D => simp
  · rename_i k hk
    have hk2 := lt_of_test h
    rw [take_succ (d := 0) hk2, List.drop_append_of_le_length (by rw [List.length_take]; omega), List.foldl_append]
    rfl
  · exact wsucc (lt_of_test h) ha
  · rename_i k hk
    rw [List.take_of_length_le (ge_of_test h)]; rfl

def widthP (n : Nat) (l : List Lk) (k : Nat) : Int := (List.range k).foldl (fun w (v : Nat) => imax w (maxS (distT n l v))) 0
def widthT (n : Nat) (l : List Lk) : Int := widthP n l n
theorem width_succ (n : Nat) (l : List Lk) (k : Nat) : widthP n l (k + 1) = imax (widthP n l k) (maxS (distT n l k)) := by
  unfold widthP; rw [List.range_succ, List.foldl_append]; rfl
def widSt20 (n : Nat) (l : List Lk) (k : Nat) : St := ⟨0, tmOf [(0, int1 n), (1, links l), (5, int1 (widthP n l k)), (7, int1 n), (8, int1 k)], .of [] 0⟩
theorem width20_D (n : Nat) (l : List Lk) (hn : n ≤ 1000) (hl : inN n l) : DPure Try.prog 20 [int1 n, links l] (int1 (widthT n l)) := by
  refine DFun.body Try.func20 rfl (by kernel_rfl) ?_
  repeat' (first | with_reducible rfl | ((conv => whnf); first | refine And.intro ?_ ?_ | (intro h; first | exact Bool.noConfusion h | with_reducible exact h | (have ht : true = true := h; clear ht h) | skip) | ((with_reducible refine DWl.mark ?_); repeat' (first | refine DWl.cons ?_ ?_ | exact DWl.nil | exact DW.same _ rfl | exact DW.ref _ _ _ rfl | exact DW.arr _ _ _ rfl | exact DW.sub _ _ _ _ rfl | exact DW.nilLst _ | refine DW.aggl ?_ | refine DW.tupl ?_ | refine DW.clol ?_ ?_ | refine DW.int ?_ | refine DW.bool ?_ | refine DW.str ?_)) | ((with_reducible refine SCall.mark ?_); first | refine SCall.data (dist18_D n l _ hn hl) rfl rfl ?_ | refine SCall.data (max35_D (distT n l _) ?_) rfl rfl ?_ | refine SCall.scal (max35_D (distT n l _) ?_) rfl rfl ?_) | ((with_reducible refine PCall.mark ?_); first | refine PCall.mk (max35_D (distT n l _) ?_) rfl rfl ?_) | ((with_reducible refine GCall.mark ?_); first | refine GCall.data (fun _ => dist18_D n l _ hn hl) rfl rfl ?_ | refine GCall.data (fun _ => max35_D (distT n l _) ?_) rfl rfl ?_ | refine GCall.scal (fun _ => max35_D (distT n l _) ?_) rfl rfl ?_) | ((with_reducible refine MCall.mark ?_); first | refine MCall.data (fun _ => dist18_D n l _ hn hl) rfl rfl ?_ | refine MCall.data (fun _ => max35_D (distT n l _) ?_) rfl rfl ?_ | refine MCall.plain (PCall.mk (max35_D (distT n l _) ?_) rfl rfl ?_)) | ((with_reducible refine Tri.mark ?_); first | refine Tri.loop (widSt20 n l) ((· ≤ n)) (fun k => n - k) (0) (by kernel_rfl) (Weak.list [] [] ?_ ?_ ?_) ?_ ?_) | ((with_reducible refine Round.mark ?_); first | refine Round.go ((· + 1)) ?_ ?_ (Weak.list [] [] ?_ ?_ ?_)) | refine dcell_ok rfl ?_ | refine AppC.new ?_))
  all_goals first | (with_reducible refine enters_mark ?_; kernel_rfl) | (with_reducible refine boolT_mark ?_; kernel_rfl) | rfl | trivial | assumption | exact Nat.le_of_ble_eq_true rfl | (show entersB _ _ = true; kernel_rfl) | exact DW.same _ rfl | exact DW.ref _ _ _ rfl | exact DW.arr _ _ _ rfl | refine DW.int ?_ | refine dvb ?_ | refine dvi ?_ | exact OW.cells rfl rfl (DWl.same rfl) | exact Nat.zero_le _ | omega | skip
  all_goals repeat' (first | refine OW.cells rfl rfl ?_ | exact DW.nilArr _ rfl | refine DWl.cons ?_ ?_ | exact DWl.nil | exact DW.same _ rfl | exact DW.ref _ _ _ rfl | exact DW.arr _ _ _ rfl | exact DW.sub _ _ _ _ rfl | exact DW.nilLst _ | refine DW.aggl ?_ | refine DW.tupl ?_ | refine DW.clol ?_ ?_)
  all_goals try ((conv => whnf); with_reducible first | refine Round.mark ?_ | refine Tells.mark ?_ | refine Retold.mark ?_)
  all_goals try first | (show (_ : Bool) = _; simp_all; done) | (show (_ : Int) < _; simp at *; omega) | (show (_ : Int) ≤ _; simp at *; omega) | (show (_ : Nat) < _; simp at *; omega) | (show (_ : Nat) ≤ _; simp at *; omega)
  · rename_i k hk e0
    have := distT_len n l k
    rw [h] at this
    have := lt_int e0
    simp at *; omega
  · exact (width_succ n l _).symm
  · exact wsucc (lt_int h) (by omega)
  · rename_i k hk
    have : k = n := by have := ge_int h; omega
    subst this; rfl

theorem fold_at (D : List Int) (w : Int) {i : Nat} (h : i < D.length) : (D.take (i + 1)).foldl imax w = (if (D.take i).foldl imax w < D.getD i 0 then D.getD i 0 else (D.take i).foldl imax w) := by
  rw [take_succ (d := 0) h, List.foldl_append]; rfl
def widSt27 (n : Nat) (l : List Lk) (k : Nat) : St := ⟨0, tmOf [(0, int1 n), (1, links l), (5, int1 (widthP n l k)), (6, int1 k)], .of [] 0⟩
def widIn27 (n : Nat) (l : List Lk) (k i : Nat) : St := ⟨0, tmOf [(0, int1 n), (1, links l), (5, int1 (((distT n l k).take i).foldl imax (widthP n l k))), (6, int1 k), (7, ints (distT n l k)), (8, int1 i)], .of [] 0⟩
theorem width27_D (n : Nat) (l : List Lk) (hn : n ≤ 1000) (hl : inN n l) : DPure Try.prog 27 [int1 n, links l] (int1 (widthT n l)) := by
  refine DFun.body Try.func27 rfl (by kernel_rfl) ?_
  repeat' (first | with_reducible rfl | ((conv => whnf); first | refine And.intro ?_ ?_ | (intro h; first | exact Bool.noConfusion h | with_reducible exact h | (have ht : true = true := h; clear ht h) | skip) | ((with_reducible refine DWl.mark ?_); repeat' (first | refine DWl.cons ?_ ?_ | exact DWl.nil | exact DW.same _ rfl | exact DW.ref _ _ _ rfl | exact DW.arr _ _ _ rfl | exact DW.sub _ _ _ _ rfl | exact DW.nilLst _ | refine DW.aggl ?_ | refine DW.tupl ?_ | refine DW.clol ?_ ?_ | refine DW.int ?_ | refine DW.bool ?_ | refine DW.str ?_)) | ((with_reducible refine SCall.mark ?_); first | refine SCall.data (dist25_D n l _ hn hl) rfl rfl ?_) | ((with_reducible refine GCall.mark ?_); first | refine GCall.data (fun _ => dist25_D n l _ hn hl) rfl rfl ?_) | ((with_reducible refine MCall.mark ?_); first | refine MCall.data (fun _ => dist25_D n l _ hn hl) rfl rfl ?_) | ((with_reducible refine Tri.mark ?_); first | (refine Tri.at (6) (int1 0) (by rfl) ?_; refine Tri.loop (widSt27 n l) ((· ≤ n)) (fun k => n - k) (0) (by kernel_rfl) (Weak.list [] [] ?_ ?_ ?_) ?_ ?_)) | ((with_reducible refine Round.mark ?_); first | refine Round.go ((· + 1)) ?_ ?_ (Weak.list [] [] ?_ ?_ ?_)) | refine dcell_ok rfl ?_ | refine AppC.new ?_))
  all_goals first | (with_reducible refine enters_mark ?_; kernel_rfl) | (with_reducible refine boolT_mark ?_; kernel_rfl) | rfl | trivial | assumption | exact Nat.le_of_ble_eq_true rfl | (show entersB _ _ = true; kernel_rfl) | exact DW.same _ rfl | exact DW.ref _ _ _ rfl | exact DW.arr _ _ _ rfl | refine DW.int ?_ | refine dvb ?_ | refine dvi ?_ | exact OW.cells rfl rfl (DWl.same rfl) | exact Nat.zero_le _ | omega | skip
  all_goals repeat' (first | refine OW.cells rfl rfl ?_ | exact DW.nilArr _ rfl | refine DWl.cons ?_ ?_ | exact DWl.nil | exact DW.same _ rfl | exact DW.ref _ _ _ rfl | exact DW.arr _ _ _ rfl | exact DW.sub _ _ _ _ rfl | exact DW.nilLst _ | refine DW.aggl ?_ | refine DW.tupl ?_ | refine DW.clol ?_ ?_)
  all_goals try ((conv => whnf); with_reducible first | refine Round.mark ?_ | refine Tells.mark ?_ | refine Retold.mark ?_)
  all_goals try first | (show (_ : Bool) = _; simp_all; done) | (show (_ : Int) < _; simp at *; omega) | (show (_ : Int) ≤ _; simp at *; omega) | (show (_ : Nat) < _; simp at *; omega) | (show (_ : Nat) ≤ _; simp at *; omega)
  · rename_i k hk
    have hkn := lt_int h
    have hkz : distT n l k ≠ [] := fun e => by have := distT_len n l k; rw [e] at this; simp at this; omega
    conv => whnf
    refine Tri.loop (widIn27 n l k) (· ≤ n) (fun i => n - i) 0 (by kernel_rfl) (Weak.list [] [] (by kernel_rfl) ?_ ?_) (Nat.zero_le _) ?_
    · repeat' (first | exact DW.same _ rfl | exact DW.ref _ _ _ rfl | exact DW.arr _ _ _ rfl | exact OW.cells rfl rfl (DWl.same rfl) | refine OW.cells rfl rfl ?_ | refine DWl.cons ?_ ?_ | exact DWl.nil | exact DW.nilArr _ rfl | exact DW.nilLst _ | refine DW.clol ?_ ?_ | refine DW.aggl ?_ | refine DW.tupl ?_ | refine DW.int ?_ | refine DW.bool ?_ | refine DW.str ?_ | refine DW.arrE rfl ?_ | ((conv => whnf); first | refine And.intro ?_ ?_ | trivial))
    · repeat' (first | exact DW.same _ rfl | exact DW.ref _ _ _ rfl | exact DW.arr _ _ _ rfl | exact OW.cells rfl rfl (DWl.same rfl) | refine OW.cells rfl rfl ?_ | refine DWl.cons ?_ ?_ | exact DWl.nil | exact DW.nilArr _ rfl | exact DW.nilLst _ | refine DW.clol ?_ ?_ | refine DW.aggl ?_ | refine DW.tupl ?_ | refine DW.int ?_ | refine DW.bool ?_ | refine DW.str ?_ | refine DW.arrE rfl ?_ | ((conv => whnf); first | refine And.intro ?_ ?_ | trivial))
    intro i hi
    have hdl := distT_len n l k
    repeat' (first | with_reducible rfl | ((conv => whnf); first | refine And.intro ?_ ?_ | (intro h; first | exact Bool.noConfusion h | with_reducible exact h | (have ht : true = true := h; clear ht h) | skip) | ((with_reducible refine DWl.mark ?_); repeat' (first | refine DWl.cons ?_ ?_ | exact DWl.nil | exact DW.same _ rfl | exact DW.ref _ _ _ rfl | exact DW.arr _ _ _ rfl | exact DW.sub _ _ _ _ rfl | exact DW.nilLst _ | refine DW.aggl ?_ | refine DW.tupl ?_ | refine DW.clol ?_ ?_ | refine DW.int ?_ | refine DW.bool ?_ | refine DW.str ?_)) | refine dloadE_map (0) ?_ ?_ | refine dcell_ok rfl ?_ | refine AppC.new ?_))
    all_goals try ((conv => whnf); with_reducible refine Round.mark ?_)
    all_goals try first | ((with_reducible show (_ : Int) < _); rw [List.length_map, hdl]; have := lt_int h; omega) | ((with_reducible show (_ : Nat) < _); rw [hdl]; have := lt_int h; omega) | ((with_reducible show Option.isSome (slElem _ _) = true); kernel_rfl) | ((with_reducible show slElem _ _ = some _); kernel_rfl) | ((with_reducible refine enters_mark ?_); kernel_rfl) | (with_reducible assumption) | ((with_reducible show List.all _ DV.one = true); rfl) | ((with_reducible show (_ : Nat) = _); rfl) | ((with_reducible show (_ == true) = true); simpa using h) | ((with_reducible show (_ : Nat) ≤ _); exact Nat.le_of_ble_eq_true rfl) | ((with_reducible show (_ : Int) ≤ _); first | omega | decide) | ((with_reducible show (_ : Int) < _); first | omega | decide) | ((with_reducible show (_ : Nat) < _); omega) | ((with_reducible show (_ : Nat) ≤ _); omega)
    · have hin := lt_int h
      refine Round.go (· + 1) (by omega) (by show n - (i + 1) < n - i; omega) (Weak.list [] [] (by kernel_rfl) ?_ ?_)
      · repeat' (first | exact wsucc hin (by omega) | exact (fold_at (distT n l k) _ (by omega)).symm | exact DW.same _ rfl | exact DW.ref _ _ _ rfl | exact DW.arr _ _ _ rfl | exact OW.cells rfl rfl (DWl.same rfl) | refine OW.cells rfl rfl ?_ | refine DWl.cons ?_ ?_ | exact DWl.nil | exact DW.nilArr _ rfl | exact DW.nilLst _ | refine DW.clol ?_ ?_ | refine DW.aggl ?_ | refine DW.tupl ?_ | refine DW.int ?_ | refine DW.bool ?_ | refine DW.str ?_ | refine DW.arrE rfl ?_ | ((conv => whnf); first | refine And.intro ?_ ?_ | trivial))
      · repeat' (first | exact wsucc hin (by omega) | exact (fold_at (distT n l k) _ (by omega)).symm | exact DW.same _ rfl | exact DW.ref _ _ _ rfl | exact DW.arr _ _ _ rfl | exact OW.cells rfl rfl (DWl.same rfl) | refine OW.cells rfl rfl ?_ | refine DWl.cons ?_ ?_ | exact DWl.nil | exact DW.nilArr _ rfl | exact DW.nilLst _ | refine DW.clol ?_ ?_ | refine DW.aggl ?_ | refine DW.tupl ?_ | refine DW.int ?_ | refine DW.bool ?_ | refine DW.str ?_ | refine DW.arrE rfl ?_ | ((conv => whnf); first | refine And.intro ?_ ?_ | trivial))
    · have : i = n := by have := ge_int h; omega
      subst this
      refine Round.go (· + 1) (by omega) (by show i - (k + 1) < i - k; omega) (Weak.list [] [] (by kernel_rfl) ?_ ?_)
      · repeat' (first | exact wsucc hkn (by omega) | exact (by rw [List.take_of_length_le (by omega), maxS_fold hkz]; exact (width_succ i l k).symm) | exact DW.same _ rfl | exact DW.ref _ _ _ rfl | exact DW.arr _ _ _ rfl | exact OW.cells rfl rfl (DWl.same rfl) | refine OW.cells rfl rfl ?_ | refine DWl.cons ?_ ?_ | exact DWl.nil | exact DW.nilArr _ rfl | exact DW.nilLst _ | refine DW.clol ?_ ?_ | refine DW.aggl ?_ | refine DW.tupl ?_ | refine DW.int ?_ | refine DW.bool ?_ | refine DW.str ?_ | refine DW.arrE rfl ?_ | ((conv => whnf); first | refine And.intro ?_ ?_ | trivial))
      · repeat' (first | exact wsucc hkn (by omega) | exact (by rw [List.take_of_length_le (by omega), maxS_fold hkz]; exact (width_succ i l k).symm) | exact DW.same _ rfl | exact DW.ref _ _ _ rfl | exact DW.arr _ _ _ rfl | exact OW.cells rfl rfl (DWl.same rfl) | refine OW.cells rfl rfl ?_ | refine DWl.cons ?_ ?_ | exact DWl.nil | exact DW.nilArr _ rfl | exact DW.nilLst _ | refine DW.clol ?_ ?_ | refine DW.aggl ?_ | refine DW.tupl ?_ | refine DW.int ?_ | refine DW.bool ?_ | refine DW.str ?_ | refine DW.arrE rfl ?_ | ((conv => whnf); first | refine And.intro ?_ ?_ | trivial))
  · rename_i k hk
    have : k = n := by have := ge_int h; omega
    subst this; rfl
end Go.Proofs.Ytphgcgggbbcjgaa

/- What the distances say: the least number of edges of a walk. -/
namespace Go.Proofs.Ytphgcgggbbcjgaa
open Go.RowKit Go.Dl

/-- An edge between two nodes. -/
def EdgeL (l : List Lk) (a b : Nat) : Prop := ∃ x ∈ l, (x.1.toNat = a ∧ x.2.toNat = b) ∨ (x.2.toNat = a ∧ x.1.toNat = b)
theorem EdgeL.symm {l : List Lk} {a b : Nat} (h : EdgeL l a b) : EdgeL l b a := by
  obtain ⟨x, hx, h | h⟩ := h
  · exact ⟨x, hx, .inr ⟨h.2, h.1⟩⟩
  · exact ⟨x, hx, .inl ⟨h.2, h.1⟩⟩
/-- A walk of so many edges. -/
def WalkL (l : List Lk) : Nat → Nat → Nat → Prop
  | 0, a, b => a = b
  | k + 1, a, b => ∃ c, WalkL l k a c ∧ EdgeL l c b
theorem WalkL.head {l : List Lk} {k : Nat} : ∀ {a b c : Nat}, EdgeL l a b → WalkL l k b c → WalkL l (k + 1) a c := by
  induction k with
  | zero => intro a b c h1 h2; cases h2; exact ⟨a, rfl, h1⟩
  | succ k ih =>
    intro a b c h1 ⟨d, h2, h3⟩
    exact ⟨d, ih h1 h2, h3⟩
theorem WalkL.symm {l : List Lk} {k : Nat} : ∀ {a b : Nat}, WalkL l k a b → WalkL l k b a := by
  induction k with
  | zero => intro a b h; exact Eq.symm h
  | succ k ih =>
    intro a b ⟨c, h1, h2⟩
    exact WalkL.head h2.symm (ih h1)
theorem WalkL.append {l : List Lk} {k j : Nat} {a b c : Nat} (h1 : WalkL l k a b) (h2 : WalkL l j b c) : WalkL l (k + j) a c := by
  induction j generalizing c with
  | zero => cases h2; exact h1
  | succ j ih =>
    obtain ⟨d, h3, h4⟩ := h2
    exact ⟨d, ih h3, h4⟩
/-- The least number of edges. -/
def LeastW (l : List Lk) (k a b : Nat) : Prop := WalkL l k a b ∧ ∀ j, j < k → ¬ WalkL l j a b
theorem LeastW.symm {l : List Lk} {k a b : Nat} (h : LeastW l k a b) : LeastW l k b a := ⟨h.1.symm, fun j hj hw => h.2 j hj hw.symm⟩
theorem LeastW.uniq {l : List Lk} {k j a b : Nat} (h1 : LeastW l k a b) (h2 : LeastW l j a b) : k = j := by
  rcases Nat.lt_trichotomy k j with h | h | h
  · exact absurd h1.1 (h2.2 k h)
  · exact h
  · exact absurd h2.1 (h1.2 j h)
theorem walk_least {l : List Lk} {a b : Nat} : ∀ k, WalkL l k a b → ∃ j, j ≤ k ∧ LeastW l j a b := fun k => by
  induction k using Nat.strongRecOn with
  | _ k ih =>
    intro h
    by_cases hh : ∃ j, j < k ∧ WalkL l j a b
    · obtain ⟨j, hj, hw⟩ := hh
      obtain ⟨i, hi, hl⟩ := ih j hj hw
      exact ⟨i, by omega, hl⟩
    · exact ⟨k, Nat.le_refl _, h, fun j hj hw => hh ⟨j, hj, hw⟩⟩

/-- What one round does to a node. -/
def afterR (l : List Lk) (D : List Int) (r v : Nat) (x : Int) : Prop :=
  (0 ≤ D.getD v 0 ∧ x = D.getD v 0) ∨ (D.getD v 0 < 0 ∧ (∃ a, EdgeL l a v ∧ D.getD a 0 = r) ∧ x = (r : Int) + 1) ∨ (D.getD v 0 < 0 ∧ (¬ ∃ a, EdgeL l a v ∧ D.getD a 0 = r) ∧ x < 0)
theorem relax_get {r : Int} {D : List Int} {a b v : Nat} (hb : b < D.length) (hv : v < D.length) : (relax r D a b).getD v 0 = if v = b ∧ D.getD a 0 = r ∧ D.getD b 0 < 0 then r + 1 else D.getD v 0 := by
  unfold relax relaxT
  by_cases h1 : D.getD a 0 = r
  · by_cases h2 : D.getD b 0 < 0
    · have e : (bif D.getD a 0 == r then decide (D.getD b 0 < 0) else false) = true := by
        rw [show (D.getD a 0 == r) = true by rw [h1]; exact beq_self_eq_true r]
        exact decide_eq_true h2
      rw [if_pos e]
      by_cases h3 : v = b
      · subst h3
        rw [if_pos ⟨rfl, h1, h2⟩, List.getD_eq_getElem?_getD, List.getElem?_set_self hv]; rfl
      · rw [if_neg (fun h => h3 h.1), List.getD_eq_getElem?_getD, List.getElem?_set_ne (fun h => h3 h.symm), ← List.getD_eq_getElem?_getD]
    · have e : ¬ (bif D.getD a 0 == r then decide (D.getD b 0 < 0) else false) = true := by
        rw [show (D.getD a 0 == r) = true by rw [h1]; exact beq_self_eq_true r]
        simpa using h2
      rw [if_neg e, if_neg (fun h => h2 h.2.2)]
  · have e : ¬ (bif D.getD a 0 == r then decide (D.getD b 0 < 0) else false) = true := by
      rw [show (D.getD a 0 == r) = false from beq_eq_false_iff_ne.2 h1]
      exact Bool.false_ne_true
    rw [if_neg e, if_neg (fun h => h1 h.2.1)]

theorem after_arith {p : Prop} {v A B : Nat} {r ev dv eA dA eB dB rv rB rA x : Int} (hr : 0 ≤ r)
    (hE : (0 ≤ dv ∧ ev = dv) ∨ (dv < 0 ∧ p ∧ ev = r + 1) ∨ (dv < 0 ∧ ¬ p ∧ ev < 0)) (b1 : eA = r ↔ dA = r) (b2 : eB = r ↔ dB = r)
    (e1 : rv = if v = B ∧ eA = r ∧ eB < 0 then r + 1 else ev) (e3 : rB = if B = B ∧ eA = r ∧ eB < 0 then r + 1 else eB) (e4 : rA = if A = B ∧ eA = r ∧ eB < 0 then r + 1 else eA)
    (hA : A = v → eA = ev ∧ dA = dv) (hB : B = v → eB = ev ∧ dB = dv) (hx : x = if v = A ∧ rB = r ∧ rA < 0 then r + 1 else rv) :
    (0 ≤ dv ∧ x = dv) ∨ (dv < 0 ∧ (p ∨ (v = B ∧ dA = r) ∨ (v = A ∧ dB = r)) ∧ x = r + 1) ∨ (dv < 0 ∧ ¬ (p ∨ (v = B ∧ dA = r) ∨ (v = A ∧ dB = r)) ∧ x < 0) := by
  rcases hE with ⟨hd, he⟩ | ⟨hd, hp, he⟩ | ⟨hd, hp, he⟩
  · left
    refine ⟨hd, ?_⟩
    rw [if_neg (by rintro ⟨h1, _, h3⟩; have := hB h1.symm; omega)] at e1
    rw [if_neg] at hx
    · omega
    · rintro ⟨h1, _, h3⟩
      have k := hA h1.symm
      rw [if_neg (by rintro ⟨h4, _, h5⟩; have := hB (h4.symm.trans h1.symm); omega)] at e4
      omega
  · right; left
    refine ⟨hd, .inl hp, ?_⟩
    have : rv = r + 1 := by rw [e1]; split <;> omega
    rw [hx]; split <;> omega
  · right
    by_cases cB : v = B ∧ dA = r
    · left
      refine ⟨hd, .inr (.inl cB), ?_⟩
      have k := hB cB.1.symm
      rw [if_pos ⟨cB.1, b1.2 cB.2, by omega⟩] at e1
      rw [hx]; split <;> omega
    · by_cases cA : v = A ∧ dB = r
      · left
        refine ⟨hd, .inr (.inr cA), ?_⟩
        have k := hA cA.1.symm
        have k2 := b2.2 cA.2
        rw [if_neg (by rintro ⟨_, _, h⟩; omega)] at e3
        rw [if_neg (by rintro ⟨_, _, h⟩; omega)] at e4
        rw [if_pos ⟨cA.1, by omega, by omega⟩] at hx
        exact hx
      · right
        refine ⟨hd, fun h => h.elim hp fun h => h.elim cB cA, ?_⟩
        rw [if_neg (by rintro ⟨h1, h2, _⟩; exact cB ⟨h1, b1.1 h2⟩)] at e1
        rw [if_neg] at hx
        · omega
        · rintro ⟨h1, h2, h3⟩
          refine cA ⟨h1, b2.1 ?_⟩
          split at e3 <;> omega
theorem step_after {l : List Lk} {D E : List Int} {r : Nat} {x : Lk} (hl : E.length = D.length) (h1 : x.1.toNat < D.length) (h2 : x.2.toNat < D.length) (h : ∀ v, v < D.length → afterR l D r v (E.getD v 0)) :
    ∀ v, v < D.length → afterR (l ++ [x]) D r v ((stepD r E x).getD v 0) := by
  have mono : ∀ {a v : Nat}, EdgeL l a v → EdgeL (l ++ [x]) a v := fun ⟨y, hy, h⟩ => ⟨y, List.mem_append_left _ hy, h⟩
  -- a node whose value is r in E has it in D
  have back : ∀ a, a < D.length → (E.getD a 0 = r ↔ D.getD a 0 = r) := fun a ha => by
    rcases h a ha with ⟨k1, k2⟩ | ⟨k1, _, k2⟩ | ⟨k1, _, k2⟩ <;> omega
  have neg : ∀ a, a < D.length → E.getD a 0 < 0 → D.getD a 0 < 0 := fun a ha hn => by
    rcases h a ha with ⟨k1, k2⟩ | ⟨k1, _, k2⟩ | ⟨k1, _, k2⟩ <;> omega
  intro v hv
  have e1 := relax_get (r := (r : Int)) (a := x.1.toNat) (b := x.2.toNat) (v := v) (by omega) (by omega : v < E.length)
  have e2 := relax_get (r := (r : Int)) (D := relax r E x.1.toNat x.2.toNat) (a := x.2.toNat) (b := x.1.toNat) (v := v) (by rw [relax_len]; omega) (by rw [relax_len]; omega)
  have e3 := relax_get (r := (r : Int)) (D := E) (a := x.1.toNat) (b := x.2.toNat) (v := x.2.toNat) (by omega) (by omega)
  have e4 := relax_get (r := (r : Int)) (D := E) (a := x.1.toNat) (b := x.2.toNat) (v := x.1.toNat) (by omega) (by omega)
  unfold stepD
  rw [e2]
  have b1 := back _ h1
  have b2 := back _ h2
  have hE := h v hv
  have iff : (∃ a, EdgeL (l ++ [x]) a v ∧ D.getD a 0 = r) ↔ (∃ a, EdgeL l a v ∧ D.getD a 0 = r) ∨ (v = x.2.toNat ∧ D.getD x.1.toNat 0 = r) ∨ (v = x.1.toNat ∧ D.getD x.2.toNat 0 = r) := by
    constructor
    · rintro ⟨a, ⟨y, hy, he⟩, hr⟩
      rcases List.mem_append.1 hy with hy | hy
      · exact .inl ⟨a, ⟨y, hy, he⟩, hr⟩
      · rw [List.mem_singleton] at hy
        subst hy
        rcases he with ⟨k1, k2⟩ | ⟨k1, k2⟩
        · exact .inr (.inl ⟨k2.symm, by rw [k1]; exact hr⟩)
        · exact .inr (.inr ⟨k2.symm, by rw [k1]; exact hr⟩)
    · rintro (⟨a, he, hr⟩ | ⟨rfl, hr⟩ | ⟨rfl, hr⟩)
      · exact ⟨a, mono he, hr⟩
      · exact ⟨_, ⟨x, by simp, .inl ⟨rfl, rfl⟩⟩, hr⟩
      · exact ⟨_, ⟨x, by simp, .inr ⟨rfl, rfl⟩⟩, hr⟩
  unfold afterR
  rw [iff]
  unfold afterR at hE
  generalize (∃ a, EdgeL l a v ∧ D.getD a 0 = (r : Int)) = p at hE ⊢
  have hx1 : x.1.toNat = v → E.getD x.1.toNat 0 = E.getD v 0 ∧ D.getD x.1.toNat 0 = D.getD v 0 := fun e => by rw [e]; exact ⟨rfl, rfl⟩
  have hx2 : x.2.toNat = v → E.getD x.2.toNat 0 = E.getD v 0 ∧ D.getD x.2.toNat 0 = D.getD v 0 := fun e => by rw [e]; exact ⟨rfl, rfl⟩
  generalize hA : x.1.toNat = A at *
  generalize hB : x.2.toNat = B at *
  generalize (relax (r : Int) E A B).getD v 0 = rv at *
  generalize (relax (r : Int) E A B).getD B 0 = rB at *
  generalize (relax (r : Int) E A B).getD A 0 = rA at *
  generalize E.getD v 0 = ev at *
  generalize E.getD A 0 = eA at *
  generalize E.getD B 0 = eB at *
  generalize D.getD v 0 = dv at *
  generalize D.getD A 0 = dA at *
  generalize D.getD B 0 = dB at *
  clear h back neg iff mono
  exact after_arith (by omega) hE b1 b2 e1 e3 e4 hx1 hx2 rfl
theorem inN_mem {n : Nat} {l : List Lk} (h : inN n l) {x : Lk} (hx : x ∈ l) : x.1.toNat < n ∧ x.2.toNat < n := by
  obtain ⟨i, hi, e⟩ := List.mem_iff_getElem.1 hx
  have := h i hi
  rw [List.getD_eq_getElem?_getD, List.getElem?_eq_getElem hi, Option.getD_some, e] at this
  omega
theorem fold_after {D : List Int} {r : Nat} (l2 : List Lk) : ∀ (l1 : List Lk) (E : List Int), E.length = D.length → (∀ x ∈ l2, x.1.toNat < D.length ∧ x.2.toNat < D.length) → (∀ v, v < D.length → afterR l1 D r v (E.getD v 0)) →
    ∀ v, v < D.length → afterR (l1 ++ l2) D r v ((l2.foldl (stepD r) E).getD v 0) := by
  induction l2 with
  | nil => intro l1 E _ _ h; simpa using h
  | cons x l2 ih =>
    intro l1 E hE hx h
    have h0 := hx x (List.mem_cons_self ..)
    have := ih (l1 ++ [x]) (stepD r E x) (by rw [stepD_len, hE]) (fun y hy => hx y (List.mem_cons_of_mem _ hy)) (step_after hE h0.1 h0.2 h)
    simpa using this
theorem round_after {n : Nat} {D : List Int} {r : Nat} {l : List Lk} (hD : D.length = n) (hl : inN n l) : ∀ v, v < n → afterR l D r v ((roundD l D r).getD v 0) := by
  subst hD
  have := fold_after (D := D) (r := r) l [] D rfl (fun x hx => inN_mem hl hx) (fun v hv => by
    by_cases h : 0 ≤ D.getD v 0
    · exact .inl ⟨h, rfl⟩
    · exact .inr (.inr ⟨by omega, fun ⟨a, ⟨y, hy, _⟩, _⟩ => by simp at hy, by omega⟩))
  exact this
theorem edge_lt {n : Nat} {l : List Lk} (hl : inN n l) {a b : Nat} (h : EdgeL l a b) : a < n ∧ b < n := by
  obtain ⟨x, hx, h | h⟩ := h
  · have := inN_mem hl hx; omega
  · have := inN_mem hl hx; omega
theorem dist_char {n : Nat} {l : List Lk} {f : Int} (hf : 0 ≤ f ∧ f < n) (hl : inN n l) (k : Nat) : ∀ v, v < n →
    (0 ≤ (roundsD n l f k).getD v 0 → LeastW l ((roundsD n l f k).getD v 0).toNat f.toNat v ∧ (roundsD n l f k).getD v 0 ≤ k) ∧
    ((roundsD n l f k).getD v 0 < 0 → ∀ j, j ≤ k → ¬ WalkL l j f.toNat v) := by
  induction k with
  | zero =>
    intro v hv
    have e : (roundsD n l f 0).getD v 0 = if v = f.toNat then 0 else -1 := by
      show (((List.replicate n (-1)).set f.toNat 0).getD v 0 : Int) = _
      by_cases h : v = f.toNat
      · subst h
        rw [if_pos rfl, List.getD_eq_getElem?_getD, List.getElem?_set_self (by simpa using hv)]; rfl
      · rw [if_neg h, List.getD_eq_getElem?_getD, List.getElem?_set_ne (fun e => h e.symm), List.getElem?_replicate, if_pos hv]; rfl
    rw [e]
    by_cases h : v = f.toNat
    · rw [if_pos h]
      exact ⟨fun _ => ⟨⟨h.symm, fun j hj => absurd hj (Nat.not_lt_zero _)⟩, by omega⟩, fun hh => absurd hh (by omega)⟩
    · rw [if_neg h]
      refine ⟨fun hh => absurd hh (by omega), fun _ j hj hw => ?_⟩
      have : j = 0 := by omega
      subst this
      exact h (Eq.symm hw)
  | succ k ih =>
    intro v hv
    have hA := round_after (r := k) (roundsD_len n l f k) hl v hv
    rw [← rounds_succ] at hA
    obtain ⟨i1, i2⟩ := ih v hv
    rcases hA with ⟨k1, k2⟩ | ⟨k1, ⟨a, he, ha⟩, k2⟩ | ⟨k1, k3, k2⟩
    · rw [k2]
      exact ⟨fun h => ⟨(i1 h).1, by have := (i1 h).2; omega⟩, fun h => absurd k1 (by omega)⟩
    · rw [k2]
      refine ⟨fun _ => ⟨?_, by omega⟩, fun h => absurd h (by omega)⟩
      have h1 := ((ih a (edge_lt hl he).1).1 (by omega)).1
      rw [ha] at h1
      have e : ((k : Int) + 1).toNat = k + 1 := by omega
      rw [e]
      exact ⟨⟨a, by simpa using h1.1, he⟩, fun j hj => i2 k1 j (by omega)⟩
    · refine ⟨fun h => absurd h (by omega), fun _ j hj hw => ?_⟩
      rcases Nat.lt_or_ge k j with h1 | h1
      · have : j = k + 1 := by omega
        subst this
        obtain ⟨c, hc, he⟩ := hw
        have hcn := (edge_lt hl he).1
        obtain ⟨c1, c2⟩ := ih c hcn
        by_cases hc0 : 0 ≤ (roundsD n l f k).getD c 0
        · obtain ⟨d1, d2⟩ := c1 hc0
          rcases Nat.lt_or_ge ((roundsD n l f k).getD c 0).toNat k with h2 | h2
          · exact i2 k1 (((roundsD n l f k).getD c 0).toNat + 1) (by omega) ⟨c, d1.1, he⟩
          · exact k3 ⟨c, he, by omega⟩
        · exact c2 (by omega) k (Nat.le_refl _) hc
      · exact i2 k1 j h1 hw

theorem relax_same {r : Nat} {D : List Int} {a b : Nat} (hb : b < D.length) : relax r D a b = D ∨ cntD D + 1 ≤ cntD (relax r D a b) := by
  unfold relax
  split
  · rename_i h
    unfold relaxT at h
    have : D.getD b 0 < 0 := by
      cases hh : D.getD a 0 == (r : Int) <;> rw [hh] at h <;> simp at h
      simpa using h
    right
    rw [cnt_set hb this (by omega)]; omega
  · exact .inl rfl
theorem step_same2 {r : Nat} {D : List Int} {x : Lk} (h1 : x.1.toNat < D.length) (h2 : x.2.toNat < D.length) : stepD r D x = D ∨ cntD D + 1 ≤ cntD (stepD r D x) := by
  unfold stepD
  have k1 := relax_same (r := r) (a := x.1.toNat) h2
  have k2 := relax_same (r := r) (D := relax r D x.1.toNat x.2.toNat) (a := x.2.toNat) (b := x.1.toNat) (by rw [relax_len]; exact h1)
  rcases k1 with k1 | k1
  · rw [k1] at k2 ⊢; exact k2
  · rcases k2 with k2 | k2
    · rw [k2]; exact .inr k1
    · right; omega
theorem fold_same {r : Nat} {n : Nat} (l : List Lk) : ∀ D : List Int, D.length = n → (∀ x ∈ l, x.1.toNat < n ∧ x.2.toNat < n) → l.foldl (stepD r) D = D ∨ cntD D + 1 ≤ cntD (l.foldl (stepD r) D) := by
  induction l with
  | nil => intro D _ _; exact .inl rfl
  | cons x l ih =>
    intro D hD hx
    have h0 := hx x (List.mem_cons_self ..)
    have k1 := step_same2 (r := r) (D := D) (x := x) (by omega) (by omega)
    have k2 := ih (stepD r D x) (by rw [stepD_len, hD]) (fun y hy => hx y (List.mem_cons_of_mem _ hy))
    rw [List.foldl_cons]
    rcases k1 with k1 | k1
    · rw [k1] at k2 ⊢; exact k2
    · rcases k2 with k2 | k2
      · rw [k2]; exact .inr k1
      · right; omega
theorem stable_at {n : Nat} {l : List Lk} {f : Int} (hf : 0 ≤ f ∧ f < n) (hl : inN n l) : ∃ j, j < n ∧ roundD l (roundsD n l f j) j = roundsD n l f j := by
  have key : ∀ k, (∃ j, j < k ∧ roundD l (roundsD n l f j) j = roundsD n l f j) ∨ k + 1 ≤ cntD (roundsD n l f k) := fun k => by
    induction k with
    | zero => exact .inr (cnt_start hf)
    | succ k ih =>
      rcases ih with ⟨j, hj, h⟩ | h
      · exact .inl ⟨j, by omega, h⟩
      · rcases fold_same (r := k) l (roundsD n l f k) (roundsD_len n l f k) (fun x hx => inN_mem hl hx) with h2 | h2
        · exact .inl ⟨k, by omega, h2⟩
        · right
          rw [rounds_succ]
          show _ ≤ cntD (l.foldl (stepD k) (roundsD n l f k))
          omega
  rcases key n with h | h
  · exact h
  · have := @cnt_le n l f n; omega
/-- What a distance says. -/
theorem dist_least {n : Nat} {l : List Lk} {f : Int} (hf : 0 ≤ f ∧ f < n) (hl : inN n l) {v : Nat} (hv : v < n) (h : 0 ≤ (distT n l f).getD v 0) : LeastW l ((distT n l f).getD v 0).toNat f.toNat v := by
  rw [distT_in hf] at *
  exact ((dist_char hf hl n v hv).1 h).1
theorem dist_walk {n : Nat} {l : List Lk} {f : Int} (hf : 0 ≤ f ∧ f < n) (hl : inN n l) {v : Nat} (hv : v < n) {m : Nat} (h : WalkL l m f.toNat v) : 0 ≤ (distT n l f).getD v 0 := by
  rw [distT_in hf]
  obtain ⟨j, hj, hs⟩ := stable_at hf hl
  have e1 : roundsD n l f n = roundsD n l f j := by have := rounds_stay hl hs (n - j); rwa [show j + (n - j) = n by omega] at this
  have e2 : roundsD n l f (j + m) = roundsD n l f j := rounds_stay hl hs m
  rw [e1, ← e2]
  rcases Int.lt_or_le ((roundsD n l f (j + m)).getD v 0) 0 with hneg | hpos
  · exact absurd h ((dist_char hf hl (j + m) v hv).2 hneg m (by omega))
  · exact hpos
theorem dist_symm {n : Nat} {l : List Lk} (hl : inN n l) {a b : Nat} (ha : a < n) (hb : b < n) (h : 0 ≤ (distT n l a).getD b 0) : (distT n l b).getD a 0 = (distT n l a).getD b 0 := by
  have h1 := dist_least (f := (a : Int)) (by omega) hl hb h
  have h2 := dist_walk (f := (b : Int)) (by omega) hl ha h1.1.symm
  have h3 := dist_least (f := (b : Int)) (by omega) hl ha h2
  have := h1.symm.uniq h3
  omega
theorem dist_symm_iff {n : Nat} {l : List Lk} (hl : inN n l) {a b : Nat} (ha : a < n) (hb : b < n) : 0 ≤ (distT n l a).getD b 0 ↔ 0 ≤ (distT n l b).getD a 0 :=
  ⟨fun h => by rw [dist_symm hl ha hb h]; exact h, fun h => by rw [dist_symm hl hb ha h]; exact h⟩
end Go.Proofs.Ytphgcgggbbcjgaa

/- The least node that each node is joined with. -/
namespace Go.Proofs.Ytphgcgggbbcjgaa
open Go.RowKit Go.Dl

def joinB (n : Nat) (l : List Lk) (v x : Nat) : Bool := decide (0 ≤ (distT n l v).getD x 0)
def mnP (p : Nat → Bool) (n x : Nat) : Nat → Int
  | 0 => x
  | k + 1 => if p (n - 1 - k) = true then (if ((n - 1 - k : Nat) : Int) < mnP p n x k then ((n - 1 - k : Nat) : Int) else mnP p n x k) else mnP p n x k
def lsP (p : Nat → Bool) (n x : Nat) : Nat → Int
  | 0 => x
  | k + 1 => if p (n - 1 - k) = true then ((n - 1 - k : Nat) : Int) else lsP p n x k
theorem lsP_ge (p : Nat → Bool) (n x : Nat) : ∀ k, k ≤ n → lsP p n x k = x ∨ ((n - k : Nat) : Int) ≤ lsP p n x k := fun k => by
  induction k with
  | zero => intro _; exact .inl rfl
  | succ k ih =>
    intro hk
    unfold lsP
    split
    · right; omega
    · rcases ih (by omega) with h | h
      · exact .inl h
      · right; omega
theorem mn_ls (p : Nat → Bool) (n x : Nat) : ∀ k, k ≤ n → mnP p n x k = min (x : Int) (lsP p n x k) := fun k => by
  induction k with
  | zero => intro _; simp [mnP, lsP]
  | succ k ih =>
    intro hk
    have h1 := ih (by omega)
    have h2 := lsP_ge p n x k (by omega)
    unfold mnP lsP
    split
    · rw [h1]
      split <;> omega
    · exact h1
theorem ls_le (p : Nat → Bool) (n x : Nat) (hx : x < n) (hp : p x = true) : ∀ k, k ≤ n → n - k ≤ x → lsP p n x k ≤ x := fun k => by
  induction k with
  | zero => intro _ h; omega
  | succ k ih =>
    intro hk h
    unfold lsP
    split
    · omega
    · rename_i hn
      by_cases h1 : n - k ≤ x
      · exact ih (by omega) h1
      · have : n - 1 - k = x := by omega
        rw [this] at hn
        exact absurd hp hn
theorem mn_eq_ls (p : Nat → Bool) (n x : Nat) (hx : x < n) (hp : p x = true) : mnP p n x n = lsP p n x n := by
  have h1 := mn_ls p n x n (Nat.le_refl _)
  have h2 := ls_le p n x hx hp n (Nat.le_refl _) (by omega)
  omega
theorem lsP_congr {p q : Nat → Bool} {n x : Nat} (h : ∀ v, v < n → p v = q v) : ∀ k, k ≤ n → lsP p n x k = lsP q n x k := fun k => by
  induction k with
  | zero => intro _; rfl
  | succ k ih =>
    intro hk
    unfold lsP
    rw [h _ (by omega), ih (by omega)]
def pfL (n : Nat) (l : List Lk) (k : Nat) : List Int := (List.range n).map fun x => mnP (fun v => joinB n l v x) n x k
def lfL (n : Nat) (l : List Lk) (k : Nat) : List Int := (List.range k).map fun x => lsP (fun i => joinB n l x i) n x n
def partsT (n : Nat) (l : List Lk) : List Int := lfL n l n
theorem self_dist {n : Nat} {l : List Lk} (hl : inN n l) {x : Nat} (hx : x < n) : (distT n l x).getD x 0 = 0 := by
  have h1 := dist_walk (l := l) (f := (x : Int)) (by omega) hl hx (m := 0) (by show (x : Int).toNat = x; omega)
  have h2 := dist_least (f := (x : Int)) (by omega) hl hx h1
  have h3 : LeastW l 0 (x : Int).toNat x := ⟨by show (x : Int).toNat = x; omega, fun j hj => absurd hj (Nat.not_lt_zero _)⟩
  have := h2.uniq h3
  omega
theorem pf_parts {n : Nat} {l : List Lk} (hl : inN n l) : pfL n l n = partsT n l := by
  unfold pfL partsT lfL
  apply List.map_congr_left
  intro x hx
  have hx : x < n := List.mem_range.1 hx
  rw [mn_eq_ls _ n x hx (by show joinB n l x x = true; unfold joinB; rw [self_dist hl hx]; rfl)]
  refine lsP_congr (fun v hv => ?_) n (Nat.le_refl _)
  unfold joinB
  exact decide_eq_decide.2 (dist_symm_iff hl hv hx)
def mixL (n : Nat) (l : List Lk) (k i : Nat) : List Int := (List.range n).map fun x => mnP (fun v => joinB n l v x) n x (if x < i then k + 1 else k)
theorem mix_zero (n : Nat) (l : List Lk) (k : Nat) : mixL n l k 0 = pfL n l k := rfl
theorem mix_all (n : Nat) (l : List Lk) (k : Nat) : mixL n l k n = pfL n l (k + 1) := by
  unfold mixL pfL
  apply List.map_congr_left
  intro x hx
  rw [if_pos (List.mem_range.1 hx)]
theorem mix_len (n : Nat) (l : List Lk) (k i : Nat) : (mixL n l k i).length = n := by simp [mixL]
theorem pf_len (n : Nat) (l : List Lk) (k : Nat) : (pfL n l k).length = n := by simp [pfL]
theorem mix_get {n : Nat} {l : List Lk} {k i : Nat} (hi : i < n) : (mixL n l k i).getD i 0 = mnP (fun v => joinB n l v i) n i k := by
  unfold mixL
  rw [List.getD_eq_getElem?_getD, List.getElem?_map, List.getElem?_range hi]
  simp
theorem mix_set {n : Nat} {l : List Lk} {k i : Nat} {w : Int} (hi : i < n) (hw : w = mnP (fun v => joinB n l v i) n i (k + 1)) : (mixL n l k i).set i w = mixL n l k (i + 1) := by
  subst hw
  apply List.ext_getElem?
  intro j
  rw [List.getElem?_set]
  unfold mixL
  by_cases hj : j < n
  · rw [List.getElem?_map, List.getElem?_map, List.getElem?_range hj]
    by_cases e : i = j
    · subst e
      rw [if_pos rfl, if_pos (by simpa using hi)]
      simp
    · rw [if_neg e]
      simp only [Option.map_some]
      congr 2
      by_cases h : j < i
      · rw [if_pos h, if_pos (by omega)]
      · rw [if_neg h, if_neg (by omega)]
  · rw [if_neg (by omega)]
    rw [List.getElem?_eq_none (by simp; omega), List.getElem?_eq_none (by simp; omega)]
theorem mix_keep {n : Nat} {l : List Lk} {k i : Nat} (hi : i < n) (h : ¬ joinB n l (n - 1 - k) i = true) : mixL n l k i = mixL n l k (i + 1) := by
  have e : mnP (fun v => joinB n l v i) n i (k + 1) = mnP (fun v => joinB n l v i) n i k := by
    rw [mnP, if_neg h]
  have h2 := mix_set (n := n) (l := l) (k := k) hi e.symm
  rw [← h2]
  have h3 := mix_get (n := n) (l := l) (k := k) hi
  rw [← h3]
  apply List.ext_getElem?
  intro j
  rw [List.getElem?_set]
  by_cases e : i = j
  · subst e
    rw [if_pos rfl, if_pos (by rw [mix_len]; exact hi), List.getD_eq_getElem?_getD, List.getElem?_eq_getElem (by rw [mix_len]; exact hi)]; rfl
  · rw [if_neg e]
end Go.Proofs.Ytphgcgggbbcjgaa

/- Parts: the program's and the document's. -/
namespace Go.Proofs.Ytphgcgggbbcjgaa
open Go.RowKit Go.Dl
attribute [local irreducible] Tri SCall DFun QSem PCall GCall MCall Round Weak dloadE OW DWl Tells IntKind.wrap Retold ESem

def vI (n k : Nat) : Int := (n : Int) - 1 - k
theorem vI_eq {n k : Nat} (h : k < n) : vI n k = ((n - 1 - k : Nat) : Int) := by unfold vI; omega
theorem vI_ge {n k : Nat} : 0 ≤ vI n k ↔ k < n := by unfold vI; omega
theorem vI_zero (n : Nat) (h : n ≤ 1000) : IntKind.i64.wrap ((n : Int) - 1) = vI n 0 := by rw [wrapI (by omega) (by omega)]; unfold vI; omega
theorem vI_succ {n k : Nat} (h : n ≤ 1000) (hk : k < n) : IntKind.i64.wrap (vI n k - 1) = vI n (k + 1) := by unfold vI; rw [wrapI (by omega) (by omega)]; omega
def idL (n k : Nat) : List Int := ((List.range k).map fun (x : Nat) => (x : Int)) ++ List.replicate (n - k) 0
theorem id_len {n k : Nat} (h : k ≤ n) : (idL n k).length = n := by simp [idL]; omega
theorem id0 (n : Nat) : (List.replicate ((n : Int).toNat) [DV.v (.int .i64 0)]).flatten = rowC (idL n 0) := by
  rw [Int.toNat_natCast]
  simp [rowC, idL, intD]
theorem id_set {n k : Nat} (h : k < n) : (idL n k).set k (k : Int) = idL n (k + 1) := by
  unfold idL
  rw [List.set_append_right _ _ (by simp), List.length_map, List.length_range, Nat.sub_self, List.range_succ, List.map_append, List.append_assoc, show n - k = (n - (k + 1)) + 1 by omega, List.replicate_succ]
  rfl
theorem id_all (n : Nat) (l : List Lk) : idL n n = pfL n l 0 := by simp [idL, pfL, mnP]
def fillSt19 (n : Nat) (l : List Lk) (k : Nat) : St := ⟨0, tmOf [(0, int1 n), (1, links l), (5, .arr 0 n), (13, int1 n), (14, int1 k)], .of [(0, ⟨3, 1, rowC (idL n k)⟩)] 1⟩
def outSt19 (n : Nat) (l : List Lk) (k : Nat) : St := ⟨0, tmOf [(0, int1 n), (1, links l), (5, .arr 0 n), (7, int1 (vI n k))], .of [(0, ⟨3, 1, rowC (pfL n l k)⟩)] 1⟩
def inSt19 (n : Nat) (l : List Lk) (k i : Nat) : St := ⟨0, tmOf [(0, int1 n), (1, links l), (5, .arr 0 n), (7, int1 (vI n k)), (31, ints (distT n l (vI n k))), (32, int1 ((distT n l (vI n k)).map intD).length), (33, int1 i)], .of [(0, ⟨3, 1, rowC (mixL n l k i)⟩)] 1⟩
theorem joinB_eq (n : Nat) (l : List Lk) (v x : Nat) : joinB n l v x = decide (0 ≤ (distT n l (v : Int)).getD x 0) := rfl
theorem mix_go {n : Nat} {l : List Lk} {k i : Nat} (hk : k < n) (hi : i < n) (hj : joinB n l (n - 1 - k) i = true) :
    (mixL n l k i).set ((i : Int).toNat * 1) (if vI n k < (mixL n l k i).getD ((i : Int).toNat * 1) 0 then vI n k else (mixL n l k i).getD ((i : Int).toNat * 1) 0) = mixL n l k (i + 1) := by
  rw [Int.toNat_natCast, Nat.mul_one, mix_get hi, vI_eq hk]
  exact mix_set hi (by rw [mnP, if_pos hj])
attribute [local irreducible] rowC idL pfL mixL lfL distT vI mnP lsP joinB OwnR
set_option maxRecDepth 20000 in
set_option maxHeartbeats 1000000 in
theorem parts19_O (n : Nat) (l : List Lk) (hn : n ≤ 1000) (hl : inN n l) : DFun Try.prog 19 [int1 n, links l] (OwnR n (partsT n l)) := by
  refine DFun.body Try.func19 rfl (by kernel_rfl) ?_
  repeat' (first | with_reducible rfl | ((conv => whnf); first | refine And.intro ?_ ?_ | (intro h; first | exact Bool.noConfusion h | with_reducible exact h | (have ht : true = true := h; clear ht h) | skip) | ((with_reducible refine DWl.mark ?_); repeat' (first | refine DWl.cons ?_ ?_ | exact DWl.nil | exact DW.same _ rfl | exact DW.ref _ _ _ rfl | exact DW.arr _ _ _ rfl | exact DW.sub _ _ _ _ rfl | exact DW.nilLst _ | refine DW.aggl ?_ | refine DW.tupl ?_ | refine DW.clol ?_ ?_ | refine DW.int ?_ | refine DW.bool ?_ | refine DW.str ?_)) | ((with_reducible refine SCall.mark ?_); first | refine SCall.data (dist18_D n l _ hn hl) rfl rfl ?_) | ((with_reducible refine GCall.mark ?_); first | refine GCall.data (fun _ => dist18_D n l _ hn hl) rfl rfl ?_) | ((with_reducible refine MCall.mark ?_); first | refine MCall.data (fun _ => dist18_D n l _ hn hl) rfl rfl ?_) | ((with_reducible refine Tri.mark ?_); first | (refine Tri.at (14) (int1 0) (by rfl) ?_; refine Tri.loop (fillSt19 n l) ((· ≤ n)) (fun k => n - k) (0) (by kernel_rfl) (Weak.list [(0, some 0)] [] ?_ ?_ ?_) ?_ ?_) | (refine Tri.at (7) (int1 (IntKind.i64.wrap ((n : Int) - 1))) (by rfl) ?_; refine Tri.loop (outSt19 n l) ((· ≤ n)) (fun k => n - k) (0) (by kernel_rfl) (Weak.list [(0, some 0)] [] ?_ ?_ ?_) ?_ ?_)) | refine dloadE_map (0) ?_ ?_ | refine dcell_row ?_ ?_ | refine dcell_ok rfl ?_ | refine AppC.new ?_))
  all_goals first | (with_reducible refine enters_mark ?_; kernel_rfl) | (with_reducible refine boolT_mark ?_; kernel_rfl) | rfl | trivial | assumption | exact Nat.le_of_ble_eq_true rfl | (show entersB _ _ = true; kernel_rfl) | exact DW.same _ rfl | exact DW.ref _ _ _ rfl | exact DW.arr _ _ _ rfl | refine DW.int ?_ | refine dvb ?_ | refine dvi ?_ | exact OW.cells rfl rfl (DWl.same rfl) | exact Nat.zero_le _ | omega | skip
  all_goals repeat' (first | refine OW.cells rfl rfl ?_ | exact DW.nilArr _ rfl | refine DWl.cons ?_ ?_ | exact DWl.nil | exact DW.same _ rfl | exact DW.ref _ _ _ rfl | exact DW.arr _ _ _ rfl | exact DW.sub _ _ _ _ rfl | exact DW.nilLst _ | refine DW.aggl ?_ | refine DW.tupl ?_ | refine DW.clol ?_ ?_)
  all_goals try ((conv => whnf); with_reducible first | refine Round.mark ?_ | refine Tells.mark ?_ | refine Retold.mark ?_)
  all_goals try first | (show (_ : Bool) = _; simp_all; done) | (show (_ : Int) < _; simp at *; omega) | (show (_ : Int) ≤ _; simp at *; omega) | (show (_ : Nat) < _; simp at *; omega) | (show (_ : Nat) ≤ _; simp at *; omega)
  · show (n : Int) * 8 ≤ _
    omega
  · exact DWl.eq (id0 n) (rowC_all _)
  · rename_i k hk
    show (k : Int).toNat * 1 + 1 ≤ (rowC (idL n k)).length
    have := lt_int h
    rw [rowC_len, id_len hk]; omega
  · rename_i k hk
    have hkn := lt_int h
    refine Round.go (· + 1) hkn (by show n - (k + 1) < n - k; omega) (Weak.list [(0, some 0)] [] (by kernel_rfl) ?_ ?_)
    · repeat' (first | exact wsucc hkn (by omega) | exact DWl.eq ((rowC_set _ _ _).trans (congrArg rowC (by rw [Int.toNat_natCast, Nat.mul_one]; exact id_set hkn))) (rowC_all _) | exact DW.same _ rfl | exact DW.ref _ _ _ rfl | exact DW.arr _ _ _ rfl | exact OW.cells rfl rfl (DWl.same rfl) | refine OW.cells rfl rfl ?_ | refine DWl.cons ?_ ?_ | exact DWl.nil | exact DW.nilArr _ rfl | exact DW.nilLst _ | refine DW.clol ?_ ?_ | refine DW.aggl ?_ | refine DW.tupl ?_ | refine DW.int ?_ | refine DW.bool ?_ | refine DW.str ?_ | refine DW.arrE rfl ?_ | ((conv => whnf); first | refine And.intro ?_ ?_ | trivial))
    · repeat' (first | exact wsucc hkn (by omega) | exact DWl.eq ((rowC_set _ _ _).trans (congrArg rowC (by rw [Int.toNat_natCast, Nat.mul_one]; exact id_set hkn))) (rowC_all _) | exact DW.same _ rfl | exact DW.ref _ _ _ rfl | exact DW.arr _ _ _ rfl | exact OW.cells rfl rfl (DWl.same rfl) | refine OW.cells rfl rfl ?_ | refine DWl.cons ?_ ?_ | exact DWl.nil | exact DW.nilArr _ rfl | exact DW.nilLst _ | refine DW.clol ?_ ?_ | refine DW.aggl ?_ | refine DW.tupl ?_ | refine DW.int ?_ | refine DW.bool ?_ | refine DW.str ?_ | refine DW.arrE rfl ?_ | ((conv => whnf); first | refine And.intro ?_ ?_ | trivial))
  · exact vI_zero n hn
  · rename_i k hk
    have : k = n := by have := ge_int h; omega
    subst this
    exact DWl.eq (congrArg rowC (id_all k l)) (rowC_all _)
  · rename_i k0 hk0 e0 k hk
    have hkn : k < n := vI_ge.1 (of_decide_eq_true h)
    have hD : (distT n l (vI n k)).length = n := distT_len _ _ _
    conv => whnf
    refine Tri.loop (inSt19 n l k) (· ≤ n) (fun i => n - i) 0 (by kernel_rfl) (Weak.list [(0, some 0)] [] (by kernel_rfl) ?_ ?_) (Nat.zero_le _) ?_
    · repeat' (first | exact DWl.eq (congrArg rowC (mix_zero n l k).symm) (rowC_all _) | exact DW.same _ rfl | exact DW.ref _ _ _ rfl | exact DW.arr _ _ _ rfl | exact OW.cells rfl rfl (DWl.same rfl) | refine OW.cells rfl rfl ?_ | refine DWl.cons ?_ ?_ | exact DWl.nil | exact DW.nilArr _ rfl | exact DW.nilLst _ | refine DW.clol ?_ ?_ | refine DW.aggl ?_ | refine DW.tupl ?_ | refine DW.int ?_ | refine DW.bool ?_ | refine DW.str ?_ | refine DW.arrE rfl ?_ | ((conv => whnf); first | refine And.intro ?_ ?_ | trivial))
    · repeat' (first | exact DWl.eq (congrArg rowC (mix_zero n l k).symm) (rowC_all _) | exact DW.same _ rfl | exact DW.ref _ _ _ rfl | exact DW.arr _ _ _ rfl | exact OW.cells rfl rfl (DWl.same rfl) | refine OW.cells rfl rfl ?_ | refine DWl.cons ?_ ?_ | exact DWl.nil | exact DW.nilArr _ rfl | exact DW.nilLst _ | refine DW.clol ?_ ?_ | refine DW.aggl ?_ | refine DW.tupl ?_ | refine DW.int ?_ | refine DW.bool ?_ | refine DW.str ?_ | refine DW.arrE rfl ?_ | ((conv => whnf); first | refine And.intro ?_ ?_ | trivial))
    intro i hi
    have hml : (mixL n l k i).length = n := mix_len _ _ _ _
    repeat' (first | with_reducible rfl | ((conv => whnf); first | refine And.intro ?_ ?_ | (intro h; first | exact Bool.noConfusion h | with_reducible exact h | (have ht : true = true := h; clear ht h) | skip) | ((with_reducible refine DWl.mark ?_); repeat' (first | refine DWl.cons ?_ ?_ | exact DWl.nil | exact DW.same _ rfl | exact DW.ref _ _ _ rfl | exact DW.arr _ _ _ rfl | exact DW.sub _ _ _ _ rfl | exact DW.nilLst _ | refine DW.aggl ?_ | refine DW.tupl ?_ | refine DW.clol ?_ ?_ | refine DW.int ?_ | refine DW.bool ?_ | refine DW.str ?_)) | refine dloadE_map (0) ?_ ?_ | refine dcell_row ?_ ?_ | refine dcell_ok rfl ?_ | refine AppC.new ?_))
    all_goals try ((conv => whnf); with_reducible refine Round.mark ?_)
    all_goals try first | ((with_reducible show (_ : Int) < _); rw [List.length_map, hD]; have := lt_of_test h; omega) | ((with_reducible show (_ : Nat) < _); rw [hD]; have := lt_of_test h; omega) | ((with_reducible show Option.isSome (slElem _ _) = true); kernel_rfl) | ((with_reducible show slElem _ _ = some _); kernel_rfl) | ((with_reducible refine enters_mark ?_); kernel_rfl) | (with_reducible assumption) | ((with_reducible show List.all _ DV.one = true); rfl) | ((with_reducible show (_ : Nat) = _); rfl) | ((with_reducible show (_ == true) = true); simpa using h) | ((with_reducible show (_ : Nat) ≤ _); exact Nat.le_of_ble_eq_true rfl) | ((with_reducible show (_ : Int) ≤ _); first | omega | decide) | ((with_reducible show (_ : Int) < _); first | omega | decide) | ((with_reducible show (_ : Nat) < _); omega) | ((with_reducible show (_ : Nat) ≤ _); omega)
    · rename_i e1
      have := lt_of_test e1; omega
    · rename_i e1
      have := lt_of_test e1; omega
    · rename_i e1
      have := lt_of_test e1; omega
    · rename_i e1
      show (i : Int).toNat * 1 + 1 ≤ (rowC (mixL n l k i)).length
      have := lt_of_test e1; rw [rowC_len]; omega
    · rename_i e1
      have hin : i < n := by have := lt_of_test e1; omega
      have hj : joinB n l (n - 1 - k) i = true := by rw [joinB_eq, ← vI_eq hkn]; exact h
      refine Round.go (· + 1) hin (by show n - (i + 1) < n - i; omega) (Weak.list [(0, some 0)] [] (by kernel_rfl) ?_ ?_)
      · repeat' (first | exact wsucc hin (by omega) | exact DWl.eq ((rowC_set _ _ _).trans (congrArg rowC (mix_go hkn hin hj))) (rowC_all _) | exact DW.same _ rfl | exact DW.ref _ _ _ rfl | exact DW.arr _ _ _ rfl | exact OW.cells rfl rfl (DWl.same rfl) | refine OW.cells rfl rfl ?_ | refine DWl.cons ?_ ?_ | exact DWl.nil | exact DW.nilArr _ rfl | exact DW.nilLst _ | refine DW.clol ?_ ?_ | refine DW.aggl ?_ | refine DW.tupl ?_ | refine DW.int ?_ | refine DW.bool ?_ | refine DW.str ?_ | refine DW.arrE rfl ?_ | ((conv => whnf); first | refine And.intro ?_ ?_ | trivial))
      · repeat' (first | exact wsucc hin (by omega) | exact DWl.eq ((rowC_set _ _ _).trans (congrArg rowC (mix_go hkn hin hj))) (rowC_all _) | exact DW.same _ rfl | exact DW.ref _ _ _ rfl | exact DW.arr _ _ _ rfl | exact OW.cells rfl rfl (DWl.same rfl) | refine OW.cells rfl rfl ?_ | refine DWl.cons ?_ ?_ | exact DWl.nil | exact DW.nilArr _ rfl | exact DW.nilLst _ | refine DW.clol ?_ ?_ | refine DW.aggl ?_ | refine DW.tupl ?_ | refine DW.int ?_ | refine DW.bool ?_ | refine DW.str ?_ | refine DW.arrE rfl ?_ | ((conv => whnf); first | refine And.intro ?_ ?_ | trivial))
    · rename_i e1
      have hin : i < n := by have := lt_of_test e1; omega
      have hj : ¬ joinB n l (n - 1 - k) i = true := by rw [joinB_eq, ← vI_eq hkn]; exact fun hh => by rw [show decide (0 ≤ (distT n l (vI n k)).getD i 0) = false from h] at hh; cases hh
      refine Round.go (· + 1) hin (by show n - (i + 1) < n - i; omega) (Weak.list [(0, some 0)] [] (by kernel_rfl) ?_ ?_)
      · repeat' (first | exact wsucc hin (by omega) | exact DWl.eq (congrArg rowC (mix_keep hin hj)) (rowC_all _) | exact DW.same _ rfl | exact DW.ref _ _ _ rfl | exact DW.arr _ _ _ rfl | exact OW.cells rfl rfl (DWl.same rfl) | refine OW.cells rfl rfl ?_ | refine DWl.cons ?_ ?_ | exact DWl.nil | exact DW.nilArr _ rfl | exact DW.nilLst _ | refine DW.clol ?_ ?_ | refine DW.aggl ?_ | refine DW.tupl ?_ | refine DW.int ?_ | refine DW.bool ?_ | refine DW.str ?_ | refine DW.arrE rfl ?_ | ((conv => whnf); first | refine And.intro ?_ ?_ | trivial))
      · repeat' (first | exact wsucc hin (by omega) | exact DWl.eq (congrArg rowC (mix_keep hin hj)) (rowC_all _) | exact DW.same _ rfl | exact DW.ref _ _ _ rfl | exact DW.arr _ _ _ rfl | exact OW.cells rfl rfl (DWl.same rfl) | refine OW.cells rfl rfl ?_ | refine DWl.cons ?_ ?_ | exact DWl.nil | exact DW.nilArr _ rfl | exact DW.nilLst _ | refine DW.clol ?_ ?_ | refine DW.aggl ?_ | refine DW.tupl ?_ | refine DW.int ?_ | refine DW.bool ?_ | refine DW.str ?_ | refine DW.arrE rfl ?_ | ((conv => whnf); first | refine And.intro ?_ ?_ | trivial))
    · have : i = n := by have := ge_of_test h; omega
      subst this
      refine Round.go (· + 1) hkn (by show i - (k + 1) < i - k; omega) (Weak.list [(0, some 0)] [] (by kernel_rfl) ?_ ?_)
      · repeat' (first | exact vI_succ hn hkn | exact DWl.eq (congrArg rowC (mix_all i l k)) (rowC_all _) | exact DW.same _ rfl | exact DW.ref _ _ _ rfl | exact DW.arr _ _ _ rfl | exact OW.cells rfl rfl (DWl.same rfl) | refine OW.cells rfl rfl ?_ | refine DWl.cons ?_ ?_ | exact DWl.nil | exact DW.nilArr _ rfl | exact DW.nilLst _ | refine DW.clol ?_ ?_ | refine DW.aggl ?_ | refine DW.tupl ?_ | refine DW.int ?_ | refine DW.bool ?_ | refine DW.str ?_ | refine DW.arrE rfl ?_ | ((conv => whnf); first | refine And.intro ?_ ?_ | trivial))
      · repeat' (first | exact vI_succ hn hkn | exact DWl.eq (congrArg rowC (mix_all i l k)) (rowC_all _) | exact DW.same _ rfl | exact DW.ref _ _ _ rfl | exact DW.arr _ _ _ rfl | exact OW.cells rfl rfl (DWl.same rfl) | refine OW.cells rfl rfl ?_ | refine DWl.cons ?_ ?_ | exact DWl.nil | exact DW.nilArr _ rfl | exact DW.nilLst _ | refine DW.clol ?_ ?_ | refine DW.aggl ?_ | refine DW.tupl ?_ | refine DW.int ?_ | refine DW.bool ?_ | refine DW.str ?_ | refine DW.arrE rfl ?_ | ((conv => whnf); first | refine And.intro ?_ ?_ | trivial))
  · rename_i k0 hk0 e0 k hk
    have : k = n := by have := of_decide_eq_false h; rw [vI_ge] at this; omega
    subst this
    conv => whnf
    exact OwnR.of (pf_parts hl)
theorem partsT_len (n : Nat) (l : List Lk) : (partsT n l).length = n := by simp [partsT, lfL]
theorem parts19_D (n : Nat) (l : List Lk) (hn : n ≤ 1000) (hl : inN n l) : DPure Try.prog 19 [int1 n, links l] (ints (partsT n l)) := OwnR.data (partsT_len n l) (parts19_O n l hn hl)
end Go.Proofs.Ytphgcgggbbcjgaa

/- Parts: the document's. -/
namespace Go.Proofs.Ytphgcgggbbcjgaa
open Go.RowKit Go.Dl
attribute [local irreducible] Tri SCall DFun QSem PCall GCall MCall Round Weak dloadE OW DWl Tells IntKind.wrap Retold ESem

def lsR (n : Nat) (l : List Lk) (k j : Nat) : Int := lsP (fun i => joinB n l k i) n k j
theorem lsR_zero (n : Nat) (l : List Lk) (k : Nat) : lsR n l k 0 = (k : Int) := rfl
theorem lsR_yes {n : Nat} {l : List Lk} {k j : Nat} (hj : j < n) (h : joinB n l k (n - 1 - j) = true) : lsR n l k (j + 1) = vI n j := by
  rw [lsR, lsP, if_pos h, vI_eq hj]
theorem lsR_no {n : Nat} {l : List Lk} {k j : Nat} (h : ¬ joinB n l k (n - 1 - j) = true) : lsR n l k (j + 1) = lsR n l k j := by
  rw [lsR, lsP, if_neg h]; rfl
theorem lf_succ (n : Nat) (l : List Lk) (k : Nat) : lfL n l (k + 1) = lfL n l k ++ [lsR n l k n] := by
  unfold lfL; rw [List.range_succ, List.map_append]; rfl
theorem lf_len (n : Nat) (l : List Lk) (k : Nat) : (lfL n l k).length = k := by simp [lfL]
theorem lf_push (n : Nat) (l : List Lk) (k : Nat) : (rowC (lfL n l k)).take (k * 1) ++ [.v (.int .i64 (lsR n l k n))] = rowC (lfL n l (k + 1)) := by
  rw [lf_succ, List.take_of_length_le (by rw [rowC_len, lf_len]; omega), rowC_map, rowC_map, List.map_append]; rfl
def o26 (n : Nat) (l : List Lk) (k : Nat) : St := ⟨0, tmOf [(0, int1 n), (1, links l), (5, .arr 0 k), (6, int1 k)], .of [(0, ⟨3, 1, rowC (lfL n l k)⟩)] 1⟩
def in26 (n : Nat) (l : List Lk) (k j : Nat) : St := ⟨0, tmOf [(0, int1 n), (1, links l), (5, .arr 0 k), (6, int1 k), (7, ints (distT n l k)), (8, int1 (lsR n l k j)), (9, int1 (vI n j))], .of [(0, ⟨3, 1, rowC (lfL n l k)⟩)] 1⟩
theorem lf_zero (n : Nat) (l : List Lk) : rowC (lfL n l 0) = [] := rfl
theorem parts_lf (n : Nat) (l : List Lk) : partsT n l = lfL n l n := rfl
attribute [local irreducible] rowC idL pfL mixL lfL distT vI mnP lsP joinB lsR partsT
set_option maxRecDepth 20000 in
set_option maxHeartbeats 1000000 in
theorem parts26_D (n : Nat) (l : List Lk) (hn : n ≤ 1000) (hl : inN n l) : DPure Try.prog 26 [int1 n, links l] (ints (partsT n l)) := by
  refine DFun.data (DFun.body Try.func26 rfl (by kernel_rfl) ?_)
  repeat' (first | with_reducible rfl | ((conv => whnf); first | refine And.intro ?_ ?_ | (intro h; first | exact Bool.noConfusion h | with_reducible exact h | (have ht : true = true := h; clear ht h) | skip) | ((with_reducible refine DWl.mark ?_); repeat' (first | refine DWl.cons ?_ ?_ | exact DWl.nil | exact DW.same _ rfl | exact DW.ref _ _ _ rfl | exact DW.arr _ _ _ rfl | exact DW.sub _ _ _ _ rfl | exact DW.nilLst _ | refine DW.aggl ?_ | refine DW.tupl ?_ | refine DW.clol ?_ ?_ | refine DW.int ?_ | refine DW.bool ?_ | refine DW.str ?_)) | ((with_reducible refine SCall.mark ?_); first | refine SCall.data (dist25_D n l _ hn hl) rfl rfl ?_) | ((with_reducible refine GCall.mark ?_); first | refine GCall.data (fun _ => dist25_D n l _ hn hl) rfl rfl ?_) | ((with_reducible refine MCall.mark ?_); first | refine MCall.data (fun _ => dist25_D n l _ hn hl) rfl rfl ?_) | ((with_reducible refine Tri.mark ?_); first | (refine Tri.at (6) (int1 0) (by rfl) ?_; refine Tri.loop (o26 n l) ((· ≤ n)) (fun k => n - k) (0) (by kernel_rfl) (Weak.list [(0, none)] [] ?_ ?_ ?_) ?_ ?_)) | refine dcell_ok rfl ?_ | refine AppC.new ?_))
  all_goals first | (with_reducible refine enters_mark ?_; kernel_rfl) | (with_reducible refine boolT_mark ?_; kernel_rfl) | rfl | trivial | assumption | exact Nat.le_of_ble_eq_true rfl | (show entersB _ _ = true; kernel_rfl) | exact DW.same _ rfl | exact DW.ref _ _ _ rfl | exact DW.arr _ _ _ rfl | refine DW.int ?_ | refine dvb ?_ | refine dvi ?_ | exact OW.cells rfl rfl (DWl.same rfl) | exact Nat.zero_le _ | omega | skip
  all_goals repeat' (first | refine OW.cells rfl rfl ?_ | exact DW.nilArr _ rfl | refine DWl.cons ?_ ?_ | exact DWl.nil | exact DW.same _ rfl | exact DW.ref _ _ _ rfl | exact DW.arr _ _ _ rfl | exact DW.sub _ _ _ _ rfl | exact DW.nilLst _ | refine DW.aggl ?_ | refine DW.tupl ?_ | refine DW.clol ?_ ?_)
  all_goals try ((conv => whnf); with_reducible first | refine Round.mark ?_ | refine Tells.mark ?_ | refine Retold.mark ?_)
  all_goals try first | (show (_ : Bool) = _; simp_all; done) | (show (_ : Int) < _; simp at *; omega) | (show (_ : Int) ≤ _; simp at *; omega) | (show (_ : Nat) < _; simp at *; omega) | (show (_ : Nat) ≤ _; simp at *; omega)
  · exact lf_zero n l
  · rename_i k hk
    have hkn := lt_int h
    have hD : (distT n l k).length = n := distT_len _ _ _
    conv => whnf
    refine Tri.loop (in26 n l k) (· ≤ n) (fun i => n - i) 0 (by kernel_rfl) (Weak.list [(0, some 0)] [] (by kernel_rfl) ?_ ?_) (Nat.zero_le _) ?_
    · repeat' (first | exact (lsR_zero n l k).symm | exact vI_zero n hn | exact DWl.eq rfl (rowC_all _) | exact DW.same _ rfl | exact DW.ref _ _ _ rfl | exact DW.arr _ _ _ rfl | exact OW.cells rfl rfl (DWl.same rfl) | refine OW.cells rfl rfl ?_ | refine DWl.cons ?_ ?_ | exact DWl.nil | exact DW.nilArr _ rfl | exact DW.nilLst _ | refine DW.clol ?_ ?_ | refine DW.aggl ?_ | refine DW.tupl ?_ | refine DW.int ?_ | refine DW.bool ?_ | refine DW.str ?_ | refine DW.arrE rfl ?_ | ((conv => whnf); first | refine And.intro ?_ ?_ | trivial))
    · repeat' (first | exact (lsR_zero n l k).symm | exact vI_zero n hn | exact DWl.eq rfl (rowC_all _) | exact DW.same _ rfl | exact DW.ref _ _ _ rfl | exact DW.arr _ _ _ rfl | exact OW.cells rfl rfl (DWl.same rfl) | refine OW.cells rfl rfl ?_ | refine DWl.cons ?_ ?_ | exact DWl.nil | exact DW.nilArr _ rfl | exact DW.nilLst _ | refine DW.clol ?_ ?_ | refine DW.aggl ?_ | refine DW.tupl ?_ | refine DW.int ?_ | refine DW.bool ?_ | refine DW.str ?_ | refine DW.arrE rfl ?_ | ((conv => whnf); first | refine And.intro ?_ ?_ | trivial))
    intro j hj
    repeat' (first | with_reducible rfl | ((conv => whnf); first | refine And.intro ?_ ?_ | (intro h; first | exact Bool.noConfusion h | with_reducible exact h | (have ht : true = true := h; clear ht h) | skip) | ((with_reducible refine DWl.mark ?_); repeat' (first | refine DWl.cons ?_ ?_ | exact DWl.nil | exact DW.same _ rfl | exact DW.ref _ _ _ rfl | exact DW.arr _ _ _ rfl | exact DW.sub _ _ _ _ rfl | exact DW.nilLst _ | refine DW.aggl ?_ | refine DW.tupl ?_ | refine DW.clol ?_ ?_ | refine DW.int ?_ | refine DW.bool ?_ | refine DW.str ?_)) | refine dloadE_map (0) ?_ ?_ | refine dcell_ok rfl ?_ | refine AppC.new ?_))
    all_goals try ((conv => whnf); with_reducible refine Round.mark ?_)
    all_goals try first | ((with_reducible show Option.isSome (slElem _ _) = true); kernel_rfl) | ((with_reducible show slElem _ _ = some _); kernel_rfl) | ((with_reducible refine enters_mark ?_); kernel_rfl) | (with_reducible assumption) | ((with_reducible show List.all _ DV.one = true); rfl) | ((with_reducible show (_ : Nat) = _); rfl) | ((with_reducible show (_ == true) = true); simpa using h) | ((with_reducible show (_ : Nat) ≤ _); exact Nat.le_of_ble_eq_true rfl) | ((with_reducible show (_ : Int) ≤ _); first | omega | decide) | ((with_reducible show (_ : Int) < _); first | omega | decide) | ((with_reducible show (_ : Nat) < _); omega) | ((with_reducible show (_ : Nat) ≤ _); omega)
    · exact of_decide_eq_true h
    · rw [List.length_map, hD, vI_eq (vI_ge.1 (of_decide_eq_true h))]
      have := vI_ge.1 (of_decide_eq_true h); omega
    · rw [hD, vI_eq (vI_ge.1 (of_decide_eq_true h))]
      have := vI_ge.1 (of_decide_eq_true h); omega
    · rename_i e1
      have hjn := vI_ge.1 (of_decide_eq_true e1)
      have hb : joinB n l k (n - 1 - j) = true := by rw [joinB_eq]; rw [vI_eq hjn] at h; exact h
      refine Round.go (· + 1) hjn (by show n - (j + 1) < n - j; omega) (Weak.list [(0, some 0)] [] (by kernel_rfl) ?_ ?_)
      · repeat' (first | exact vI_succ hn hjn | exact (lsR_yes hjn hb).symm | exact DWl.eq rfl (rowC_all _) | exact DW.same _ rfl | exact DW.ref _ _ _ rfl | exact DW.arr _ _ _ rfl | exact OW.cells rfl rfl (DWl.same rfl) | refine OW.cells rfl rfl ?_ | refine DWl.cons ?_ ?_ | exact DWl.nil | exact DW.nilArr _ rfl | exact DW.nilLst _ | refine DW.clol ?_ ?_ | refine DW.aggl ?_ | refine DW.tupl ?_ | refine DW.int ?_ | refine DW.bool ?_ | refine DW.str ?_ | refine DW.arrE rfl ?_ | ((conv => whnf); first | refine And.intro ?_ ?_ | trivial))
      · repeat' (first | exact vI_succ hn hjn | exact (lsR_yes hjn hb).symm | exact DWl.eq rfl (rowC_all _) | exact DW.same _ rfl | exact DW.ref _ _ _ rfl | exact DW.arr _ _ _ rfl | exact OW.cells rfl rfl (DWl.same rfl) | refine OW.cells rfl rfl ?_ | refine DWl.cons ?_ ?_ | exact DWl.nil | exact DW.nilArr _ rfl | exact DW.nilLst _ | refine DW.clol ?_ ?_ | refine DW.aggl ?_ | refine DW.tupl ?_ | refine DW.int ?_ | refine DW.bool ?_ | refine DW.str ?_ | refine DW.arrE rfl ?_ | ((conv => whnf); first | refine And.intro ?_ ?_ | trivial))
    · rename_i e1
      have hjn := vI_ge.1 (of_decide_eq_true e1)
      have hb : ¬ joinB n l k (n - 1 - j) = true := by rw [joinB_eq]; rw [vI_eq hjn] at h; exact fun hh => by rw [show decide (0 ≤ (distT n l (k : Int)).getD (n - 1 - j) 0) = false from h] at hh; cases hh
      refine Round.go (· + 1) hjn (by show n - (j + 1) < n - j; omega) (Weak.list [(0, some 0)] [] (by kernel_rfl) ?_ ?_)
      · repeat' (first | exact vI_succ hn hjn | exact (lsR_no hb).symm | exact DWl.eq rfl (rowC_all _) | exact DW.same _ rfl | exact DW.ref _ _ _ rfl | exact DW.arr _ _ _ rfl | exact OW.cells rfl rfl (DWl.same rfl) | refine OW.cells rfl rfl ?_ | refine DWl.cons ?_ ?_ | exact DWl.nil | exact DW.nilArr _ rfl | exact DW.nilLst _ | refine DW.clol ?_ ?_ | refine DW.aggl ?_ | refine DW.tupl ?_ | refine DW.int ?_ | refine DW.bool ?_ | refine DW.str ?_ | refine DW.arrE rfl ?_ | ((conv => whnf); first | refine And.intro ?_ ?_ | trivial))
      · repeat' (first | exact vI_succ hn hjn | exact (lsR_no hb).symm | exact DWl.eq rfl (rowC_all _) | exact DW.same _ rfl | exact DW.ref _ _ _ rfl | exact DW.arr _ _ _ rfl | exact OW.cells rfl rfl (DWl.same rfl) | refine OW.cells rfl rfl ?_ | refine DWl.cons ?_ ?_ | exact DWl.nil | exact DW.nilArr _ rfl | exact DW.nilLst _ | refine DW.clol ?_ ?_ | refine DW.aggl ?_ | refine DW.tupl ?_ | refine DW.int ?_ | refine DW.bool ?_ | refine DW.str ?_ | refine DW.arrE rfl ?_ | ((conv => whnf); first | refine And.intro ?_ ?_ | trivial))
    · show k * 1 ≤ (rowC (lfL n l k)).length
      rw [rowC_len, lf_len]; omega
    · show (k + 1) * 8 ≤ _
      omega
    · simp only [maxLen]; omega
    · have : j = n := by have := of_decide_eq_false h; rw [vI_ge] at this; omega
      subst this
      refine Round.go (· + 1) hkn (by show j - (k + 1) < j - k; omega) (Weak.list [(0, some 2)] [] (by kernel_rfl) ?_ ?_)
      · repeat' (first | exact wsucc hkn (by omega) | exact DWl.eq (lf_push j l k) (rowC_all _) | exact DW.same _ rfl | exact DW.ref _ _ _ rfl | exact DW.arr _ _ _ rfl | exact OW.cells rfl rfl (DWl.same rfl) | refine OW.cells rfl rfl ?_ | refine DWl.cons ?_ ?_ | exact DWl.nil | exact DW.nilArr _ rfl | exact DW.nilLst _ | refine DW.clol ?_ ?_ | refine DW.aggl ?_ | refine DW.tupl ?_ | refine DW.int ?_ | refine DW.bool ?_ | refine DW.str ?_ | refine DW.arrE rfl ?_ | ((conv => whnf); first | refine And.intro ?_ ?_ | trivial))
      · repeat' (first | exact wsucc hkn (by omega) | exact DWl.eq (lf_push j l k) (rowC_all _) | exact DW.same _ rfl | exact DW.ref _ _ _ rfl | exact DW.arr _ _ _ rfl | exact OW.cells rfl rfl (DWl.same rfl) | refine OW.cells rfl rfl ?_ | refine DWl.cons ?_ ?_ | exact DWl.nil | exact DW.nilArr _ rfl | exact DW.nilLst _ | refine DW.clol ?_ ?_ | refine DW.aggl ?_ | refine DW.tupl ?_ | refine DW.int ?_ | refine DW.bool ?_ | refine DW.str ?_ | refine DW.arrE rfl ?_ | ((conv => whnf); first | refine And.intro ?_ ?_ | trivial))
  · rename_i k hk
    have : k = n := by have := ge_int h; omega
    subst this
    exact Tells.of (r1 := ints (lfL k l k)) (by rw [parts_lf]) (Tells.mk (DW.pubM rfl (lf_len _ _ _) rfl rfl (intsRow _) (rowC_eq _)))
end Go.Proofs.Ytphgcgggbbcjgaa
