/- Pairs of nodes, and how many a node is in. -/
import Derived.Test.YtphgcgggbbcjgaaRows
import Derived.Test.YtphgcgggbbcjgaaDl23
import Derived.KernelRfl
namespace Go.Proofs.Ytphgcgggbbcjgaa
open Go.RowKit Go.Dl
instance : Inhabited GlobS := ⟨GlobS.none⟩
attribute [local irreducible] Tri SCall DFun QSem PCall GCall MCall Round Weak dloadE OW DWl Tells IntKind.wrap Retold ESem

abbrev Lk : Type := Int × Int
def intD (x : Int) : List DV := [.v (.int .i64 x)]
def ints (l : List Int) : DV := .lst 1 (l.map intD)
def int1 (x : Int) : DV := .v (.int .i64 x)
def linkD (x : Lk) : List DV := [.v (.int .i64 x.1), .v (.int .i64 x.2)]
def links (l : List Lk) : DV := .lst 2 (l.map linkD)
def lk0 : Lk := (0, 0)

theorem wrap64 {k : Nat} (h : k < 9223372036854775808) : IntKind.i64.wrap (k : Int) = k := by
  simp [IntKind.wrap, IntKind.bits, IntKind.signed]; omega
theorem wrapI {x : Int} (h : -9223372036854775808 ≤ x) (h2 : x < 9223372036854775808) : IntKind.i64.wrap x = x := by
  simp [IntKind.wrap, IntKind.bits, IntKind.signed]; omega
theorem take_succ_eq {α : Type} {a b : List α} {d : α} {k : Nat} (hl : a.length = b.length) (h : a.take k = b.take k) (hk : k < a.length) (e : a.getD k d = b.getD k d) : a.take (k + 1) = b.take (k + 1) := by
  have h1 : a[k]? = b[k]? := by
    simp only [List.getD_eq_getElem?_getD, List.getElem?_eq_getElem hk, List.getElem?_eq_getElem (show k < b.length by omega), Option.getD_some] at e ⊢
    rw [e]
  rw [List.take_add_one, List.take_add_one, h, h1]
theorem take_succ {α : Type} {a : List α} {d : α} {k : Nat} (hk : k < a.length) : a.take (k + 1) = a.take k ++ [a.getD k d] := by
  rw [List.take_add_one, List.getElem?_eq_getElem hk, List.getD_eq_getElem?_getD, List.getElem?_eq_getElem hk]; rfl
theorem k44 : eqTK Try.prog 44 = some [.int, .int] := by kernel_rfl

theorem _root_.Go.Dl.Tri.at {P : Program} {N : Nat} {Y : YT} {c : Code} {st : St} {Q : DExit → St → Prop} (t : Nat) (d : DV) (_ : st.tm t = d) (h : Tri P N Y c st Q) : Tri P N Y c st Q := h
def inB (v : Int) (x : Lk) : Bool := x.1 == v || x.2 == v
def degT (l : List Lk) (v : Int) : Nat := l.countP (inB v)
theorem degT_le (l : List Lk) (v : Int) : degT l v ≤ l.length := List.countP_le_length
theorem degT_succ (l : List Lk) (v : Int) {k : Nat} (hk : k < l.length) : degT (l.take (k + 1)) v = degT (l.take k) v + (if inB v (l.getD k lk0) then 1 else 0) := by
  rw [take_succ (d := lk0) hk, degT, degT, List.countP_append, List.countP_singleton]

theorem wsucc {k n : Nat} (h : k < n) (hn : n ≤ 9223372036854775807) : IntKind.i64.wrap ((k : Int) + 1) = ((k + 1 : Nat) : Int) := by
  have := wrap64 (k := k + 1) (by omega)
  simpa using this
theorem lt_of_test {k : Nat} {α : Type} {f : α → List DV} {l : List α} (h : decide ((k : Int) < ((l.map f).length : Nat)) = true) : k < l.length := by simpa using h
theorem ge_of_test {k : Nat} {α : Type} {f : α → List DV} {l : List α} (h : decide ((k : Int) < ((l.map f).length : Nat)) = false) : l.length ≤ k := by simpa using h
theorem deg_yes {l : List Lk} {v : Int} {k : Nat} (hl : l.length ≤ 9223372036854775807) (hk : k < l.length) (h : inB v (l.getD k lk0) = true) : IntKind.i64.wrap ((degT (l.take k) v : Nat) + 1) = (degT (l.take (k + 1)) v : Nat) := by
  rw [degT_succ l v hk, if_pos h]
  exact wsucc (n := l.length) (by have := degT_le (l.take k) v; rw [List.length_take] at this; omega) hl
theorem deg_no {l : List Lk} {v : Int} {k : Nat} (hk : k < l.length) (h : inB v (l.getD k lk0) = false) : ((degT (l.take k) v : Nat) : Int) = (degT (l.take (k + 1)) v : Nat) := by
  rw [degT_succ l v hk, if_neg (by rw [h]; simp)]; rfl
theorem in_bif {v : Int} {x : Lk} {b : Bool} (h : (bif x.1 == v then true else x.2 == v) = b) : inB v x = b := by
  rw [← h, inB]; cases x.1 == v <;> rfl
def degSt22 (l : List Lk) (v : Int) (k : Nat) : St := ⟨0, tmOf [(1, int1 v), (5, int1 (degT (l.take k) v)), (8, links l), (9, int1 l.length), (10, int1 k)], .of [] 0⟩
set_option maxRecDepth 10000 in
theorem deg22_D (l : List Lk) (v : Int) : DPure Try.prog 22 [links l, int1 v] (int1 (degT l v)) := by
  refine DFun.bound 0 rfl fun ha => ?_
  have ha : l.length ≤ 9223372036854775807 := by simpa [maxLen] using ha
  refine DFun.body Try.func22 rfl (by kernel_rfl) ?_
  repeat' (first | with_reducible rfl | ((conv => whnf); first | refine And.intro ?_ ?_ | (intro h; first | exact Bool.noConfusion h | with_reducible exact h | (have ht : true = true := h; clear ht h) | skip) | ((with_reducible refine DWl.mark ?_); repeat' (first | refine DWl.cons ?_ ?_ | exact DWl.nil | exact DW.same _ rfl | exact DW.ref _ _ _ rfl | exact DW.arr _ _ _ rfl | exact DW.sub _ _ _ _ rfl | exact DW.nilLst _ | refine DW.aggl ?_ | refine DW.tupl ?_ | refine DW.clol ?_ ?_ | refine DW.int ?_ | refine DW.bool ?_ | refine DW.str ?_)) | ((with_reducible refine Tri.mark ?_); first | refine Tri.loop (degSt22 l v) (fun k => k ≤ l.length) (fun k => l.length - k) (0) (by kernel_rfl) (Weak.list [] [] ?_ ?_ ?_) ?_ ?_) | ((with_reducible refine Round.mark ?_); first | refine Round.go ((· + 1)) ?_ ?_ (Weak.list [] [] ?_ ?_ ?_)) | refine dloadE_map (lk0) ?_ ?_ | refine dcell_ok rfl ?_ | refine AppC.new ?_))
  all_goals first | (with_reducible refine enters_mark ?_; kernel_rfl) | (with_reducible refine boolT_mark ?_; kernel_rfl) | rfl | trivial | assumption | exact Nat.le_of_ble_eq_true rfl | (show entersB _ _ = true; kernel_rfl) | exact DW.same _ rfl | exact DW.ref _ _ _ rfl | exact DW.arr _ _ _ rfl | refine DW.int ?_ | refine dvb ?_ | refine dvi ?_ | exact OW.cells rfl rfl (DWl.same rfl) | skip
  all_goals repeat' (first | exact OW.cells rfl rfl (DWl.same rfl) | refine OW.cells rfl rfl ?_ | exact DW.nilArr _ rfl | refine DW.clol ?_ ?_ | refine DWl.cons ?_ ?_ | exact DWl.nil | exact DW.same _ rfl | exact DW.ref _ _ _ rfl | exact DW.arr _ _ _ rfl | refine DW.int ?_)
  all_goals try (simp_all; done)
  all_goals try (simp at *; omega)
  · rename_i e0 k hk e1
    exact deg_yes ha (of_decide_eq_true e1 |> Int.ofNat_lt.1) (in_bif h)
  · rename_i e0 k hk e1
    exact wsucc (of_decide_eq_true e1 |> Int.ofNat_lt.1) ha
  · rename_i e0 k hk e1
    exact deg_no (of_decide_eq_true e1 |> Int.ofNat_lt.1) (in_bif h)
  · rename_i e0 k hk e1
    exact wsucc (of_decide_eq_true e1 |> Int.ofNat_lt.1) ha
  · rename_i e0 k hk
    rw [List.take_of_length_le (Nat.not_lt.1 fun hh => of_decide_eq_false h (Int.ofNat_lt.2 hh))]
def degSt23 (l : List Lk) (v : Int) (k : Nat) : St := ⟨0, tmOf [(0, links l), (1, int1 v), (5, int1 (degT (l.take k) v)), (6, int1 k)], .of [] 0⟩
theorem deg23_D (l : List Lk) (v : Int) : DPure Try.prog 23 [links l, int1 v] (int1 (degT l v)) := by
  refine DFun.bound 0 rfl fun ha => ?_
  have ha : l.length ≤ 9223372036854775807 := by simpa [maxLen] using ha
  refine DFun.body Try.func23 rfl (by kernel_rfl) ?_
  repeat' (first | with_reducible rfl | ((conv => whnf); first | refine And.intro ?_ ?_ | (intro h; first | exact Bool.noConfusion h | with_reducible exact h | (have ht : true = true := h; clear ht h) | skip) | ((with_reducible refine DWl.mark ?_); repeat' (first | refine DWl.cons ?_ ?_ | exact DWl.nil | exact DW.same _ rfl | exact DW.ref _ _ _ rfl | exact DW.arr _ _ _ rfl | exact DW.sub _ _ _ _ rfl | exact DW.nilLst _ | refine DW.aggl ?_ | refine DW.tupl ?_ | refine DW.clol ?_ ?_ | refine DW.int ?_ | refine DW.bool ?_ | refine DW.str ?_)) | ((with_reducible refine Tri.mark ?_); first | refine Tri.loop (degSt23 l v) (fun k => k ≤ l.length) (fun k => l.length - k) (0) (by kernel_rfl) (Weak.list [] [] ?_ ?_ ?_) ?_ ?_) | ((with_reducible refine Round.mark ?_); first | refine Round.go ((· + 1)) ?_ ?_ (Weak.list [] [] ?_ ?_ ?_)) | refine dloadE_map (lk0) ?_ ?_ | refine dcell_ok rfl ?_ | refine AppC.new ?_))
  all_goals first | (with_reducible refine enters_mark ?_; kernel_rfl) | (with_reducible refine boolT_mark ?_; kernel_rfl) | rfl | trivial | assumption | exact Nat.le_of_ble_eq_true rfl | (show entersB _ _ = true; kernel_rfl) | exact DW.same _ rfl | exact DW.ref _ _ _ rfl | exact DW.arr _ _ _ rfl | refine DW.int ?_ | refine dvb ?_ | refine dvi ?_ | exact OW.cells rfl rfl (DWl.same rfl) | skip
  all_goals repeat' (first | exact OW.cells rfl rfl (DWl.same rfl) | refine OW.cells rfl rfl ?_ | exact DW.nilArr _ rfl | refine DW.clol ?_ ?_ | refine DWl.cons ?_ ?_ | exact DWl.nil | exact DW.same _ rfl | exact DW.ref _ _ _ rfl | exact DW.arr _ _ _ rfl | refine DW.int ?_)
  all_goals try (simp_all; done)
  all_goals try (simp at *; omega)
  · rename_i e0 k hk e1
    exact deg_yes ha (lt_of_test e1) (in_bif h)
  · rename_i e0 k hk e1
    exact wsucc (lt_of_test e1) ha
  · rename_i e0 k hk e1
    exact deg_no (lt_of_test e1) (in_bif h)
  · rename_i e0 k hk e1
    exact wsucc (lt_of_test e1) ha
  · rename_i e0 k hk
    rw [List.take_of_length_le (ge_of_test h)]
end Go.Proofs.Ytphgcgggbbcjgaa
