/- The script that makes a network. -/
import Derived.Test.YtphgcgggbbcjgaaB
namespace Go.Proofs.Ytphgcgggbbcjgaa
open Go.RowKit Go.Dl
attribute [local irreducible] Tri SCall DFun QSem PCall GCall MCall Round Weak dloadE OW DWl Tells IntKind.wrap Retold ESem

structure StepL where
  kind : Int
  a : Int
  b : Int
  name : ByteArray
  k : Int
  n : Int
  deriving DecidableEq
def step0 : StepL := ⟨0, 0, 0, ByteArray.empty, 0, 0⟩
def stpD (s : StepL) : List DV := [.v (.int .i64 s.kind), .v (.int .i64 s.a), .v (.int .i64 s.b), .v (.string s.name), .v (.int .i64 s.k), .v (.int .i64 s.n)]
def stpsD (l : List StepL) : DV := .lst 6 (l.map stpD)
theorem k65 : eqTK Try.prog 65 = some [.int, .int, .int, .str, .int, .int] := by kernel_rfl
theorem stpsRow (l : List StepL) : ∀ r ∈ l.map stpD, r.length = 6 ∧ r.all isData1 = true := by
  intro r hr
  obtain ⟨x, _, rfl⟩ := List.mem_map.1 hr
  exact ⟨rfl, rfl⟩
def rowS (l : List StepL) : List DV := (l.map stpD).flatten
theorem rowS_eq (l : List StepL) : rowS l = (l.map stpD).flatten := rfl
theorem rowS_len (l : List StepL) : (rowS l).length = l.length * 6 := by
  induction l with
  | nil => rfl
  | cons x l ih => simp only [rowS, List.map_cons, List.flatten_cons, List.length_append, List.length_cons] at *; rw [ih, Nat.succ_mul]; simp [stpD]; omega
theorem rowS_app (a b : List StepL) : rowS (a ++ b) = rowS a ++ rowS b := by simp [rowS]
theorem rowS_all (l : List StepL) : (rowS l).all noId1 = true := by
  induction l with
  | nil => rfl
  | cons x l ih => simp only [rowS, List.map_cons, List.flatten_cons, List.all_append] at *; rw [ih]; rfl
/-- An append behind a row that is whole. -/
theorem rowS_push {a b : List StepL} {m : Nat} {c : List DV} (hm : a.length = m) (hc : c = rowS b) : (rowS a).take (m * 6) ++ c = rowS (a ++ b) := by
  rw [rowS_app, hc, List.take_of_length_le (by rw [rowS_len, hm]; exact Nat.le_refl _)]

def lit (l : List StepL) : List DV := (l.map stpD).flatten
def headS : List Lk → List StepL
  | [] => []
  | x :: l => ⟨1, x.1, x.2, ByteArray.empty, 0, 0⟩ :: ⟨1, x.2, x.1, ByteArray.empty, 0, 0⟩ :: headS l
theorem headS_len (l : List Lk) : (headS l).length = 2 * l.length := by
  induction l with
  | nil => rfl
  | cons x l ih => simp only [headS, List.length_cons, ih]; omega
theorem headS_app (a b : List Lk) : headS (a ++ b) = headS a ++ headS b := by
  induction a with
  | nil => rfl
  | cons x a ih => simp only [List.cons_append, headS, ih]
theorem headS_succ (l : List Lk) {k : Nat} (hk : k < l.length) : headS (l.take (k + 1)) = headS (l.take k) ++ [⟨1, (l.getD k lk0).1, (l.getD k lk0).2, ByteArray.empty, 0, 0⟩, ⟨1, (l.getD k lk0).2, (l.getD k lk0).1, ByteArray.empty, 0, 0⟩] := by
  rw [take_succ (d := lk0) hk, headS_app]; rfl
def rounds6 (k : Nat) : List StepL := List.replicate k ⟨13, 0, 0, ByteArray.empty, 0, 0⟩
def aheadS (l : List Lk) : List StepL := headS l ++ rounds6 6
def midS (l : List Lk) (name : ByteArray) (kind scale : Int) : List StepL := aheadS l ++ [⟨3, 0, 0, name, kind, scale⟩, ⟨12, 0, 0, ByteArray.empty, 0, 0⟩]
def setsS (name : ByteArray) (xs : List Int) (k : Nat) : List StepL := (List.range k).map fun i => ⟨5, (i : Nat), 0, name, 0, xs.getD i 0⟩
def scriptT (n : Nat) (l : List Lk) (name : ByteArray) (kind scale : Int) (xs : List Int) : List StepL := midS l name kind scale ++ setsS name xs (min n xs.length)
theorem setsS_succ (name : ByteArray) (xs : List Int) (k : Nat) : setsS name xs (k + 1) = setsS name xs k ++ [⟨5, (k : Nat), 0, name, 0, xs.getD k 0⟩] := by
  unfold setsS; rw [List.range_succ, List.map_append]; rfl
theorem rounds6_succ (k : Nat) : rounds6 (k + 1) = rounds6 k ++ [⟨13, 0, 0, ByteArray.empty, 0, 0⟩] := by
  unfold rounds6; rw [List.replicate_succ']

theorem headr_zero (l : List Lk) : headS l = headS l ++ rounds6 0 := (List.append_nil _).symm
theorem rowS_zero (l : List Lk) : rowS (headS (l.take 0)) = [] := rfl
theorem rounds6_len (k : Nat) : (rounds6 k).length = k := by simp [rounds6]
theorem headr_len (l : List Lk) (k : Nat) : (headS l ++ rounds6 k).length = 2 * l.length + k := by rw [List.length_append, headS_len, rounds6_len]
theorem setsS_len (name : ByteArray) (xs : List Int) (k : Nat) : (setsS name xs k).length = k := by simp [setsS]
theorem midS_len (l : List Lk) (name : ByteArray) (kind scale : Int) : (midS l name kind scale).length = 2 * l.length + 8 := by
  simp only [midS, aheadS, List.length_append, headr_len, List.length_cons, List.length_nil]
  simp only [headS_len, rounds6_len]
theorem mids_len (l : List Lk) (name : ByteArray) (kind scale : Int) (xs : List Int) (k : Nat) : (midS l name kind scale ++ setsS name xs k).length = 2 * l.length + 8 + k := by rw [List.length_append, midS_len, setsS_len]
theorem midS_eq (l : List Lk) (name : ByteArray) (kind scale : Int) (xs : List Int) : midS l name kind scale ++ setsS name xs 0 = (headS l ++ rounds6 6) ++ [⟨3, 0, 0, name, kind, scale⟩, ⟨12, 0, 0, ByteArray.empty, 0, 0⟩] := by
  simp [midS, aheadS, setsS]
theorem push_head (l : List Lk) {k : Nat} (hk : k < l.length) : (rowS (headS (l.take k))).take (2 * k * 6) ++ lit [⟨1, (l.getD k lk0).1, (l.getD k lk0).2, ByteArray.empty, 0, 0⟩, ⟨1, (l.getD k lk0).2, (l.getD k lk0).1, ByteArray.empty, 0, 0⟩] = rowS (headS (l.take (k + 1))) := by
  rw [headS_succ l hk]
  exact rowS_push (by rw [headS_len, List.length_take]; omega) rfl
theorem push_round (l : List Lk) (k : Nat) : (rowS (headS l ++ rounds6 k)).take ((2 * l.length + k) * 6) ++ lit [⟨13, 0, 0, ByteArray.empty, 0, 0⟩] = rowS (headS l ++ rounds6 (k + 1)) := by
  rw [rounds6_succ, ← List.append_assoc]
  exact rowS_push (headr_len l k) rfl
theorem push_mid (l : List Lk) (name : ByteArray) (kind scale : Int) (xs : List Int) : (rowS (headS l ++ rounds6 6)).take ((2 * l.length + 6) * 6) ++ lit [⟨3, 0, 0, name, kind, scale⟩, ⟨12, 0, 0, ByteArray.empty, 0, 0⟩] = rowS (midS l name kind scale ++ setsS name xs 0) := by
  rw [midS_eq]
  exact rowS_push (headr_len l 6) rfl
theorem push_set (l : List Lk) (name : ByteArray) (kind scale : Int) (xs : List Int) (k : Nat) : (rowS (midS l name kind scale ++ setsS name xs k)).take ((2 * l.length + 8 + k) * 6) ++ lit [⟨5, (k : Nat), 0, name, 0, xs.getD k 0⟩] = rowS (midS l name kind scale ++ setsS name xs (k + 1)) := by
  rw [setsS_succ, ← List.append_assoc]
  exact rowS_push (mids_len l name kind scale xs k) rfl
def stpsSt (a b : List StepL) (k : Nat) : St := ⟨0, tmOf [(0, stpsD a), (1, stpsD b), (12, int1 (a.map stpD).length), (13, int1 k)], .of [] 0⟩
theorem stp_ne {x y : StepL} {b : Bool} (h : (!cellsEq [DV.v (Value.int IntKind.i64 x.kind), DV.v (Value.int IntKind.i64 x.a), DV.v (Value.int IntKind.i64 x.b), DV.v (Value.string x.name), DV.v (Value.int IntKind.i64 x.k), DV.v (Value.int IntKind.i64 x.n)] [DV.v (Value.int IntKind.i64 y.kind), DV.v (Value.int IntKind.i64 y.a), DV.v (Value.int IntKind.i64 y.b), DV.v (Value.string y.name), DV.v (Value.int IntKind.i64 y.k), DV.v (Value.int IntKind.i64 y.n)]) = b) : b = true ↔ x ≠ y := by
  subst h
  cases x; cases y
  simp [cellsEq, cellEq, ba_beq]
  grind
theorem steps_D (a b : List StepL) : DPure Try.prog 15 [stpsD a, stpsD b] (.v (.bool (decide (a = b)))) := by
  refine DFun.bound 0 rfl fun ha => ?_
  have ha : a.length ≤ 9223372036854775807 := by simpa [maxLen] using ha
  refine DFun.body Try.func15 rfl (by kernel_rfl) ?_
  repeat' (first | with_reducible rfl | ((conv => whnf); first | refine And.intro ?_ ?_ | (intro h; first | exact Bool.noConfusion h | with_reducible exact h | (have ht : true = true := h; clear ht h) | skip) | ((with_reducible refine DWl.mark ?_); repeat' (first | refine DWl.cons ?_ ?_ | exact DWl.nil | exact DW.same _ rfl | exact DW.ref _ _ _ rfl | exact DW.arr _ _ _ rfl | exact DW.sub _ _ _ _ rfl | exact DW.nilLst _ | refine DW.aggl ?_ | refine DW.tupl ?_ | refine DW.clol ?_ ?_ | refine DW.int ?_ | refine DW.bool ?_ | refine DW.str ?_)) | ((with_reducible refine Tri.mark ?_); first | refine Tri.loop (stpsSt a b) (fun k => k ≤ a.length ∧ a.take k = b.take k) (fun k => a.length - k) (0) (by kernel_rfl) (Weak.list [] [] ?_ ?_ ?_) ?_ ?_) | ((with_reducible refine Round.mark ?_); first | refine Round.go ((· + 1)) ?_ ?_ (Weak.list [] [] ?_ ?_ ?_)) | ((with_reducible refine ex_mark ?_); first | refine dq_eql k65 ?_ rfl ?_ rfl rfl ?_ | refine dq_neq k65 ?_ rfl ?_ rfl rfl ?_) | refine dloadE_map (step0) ?_ ?_ | refine dcell_ok rfl ?_ | refine AppC.new ?_))
  all_goals first | (with_reducible refine enters_mark ?_; kernel_rfl) | (with_reducible refine boolT_mark ?_; kernel_rfl) | rfl | trivial | assumption | exact Nat.le_of_ble_eq_true rfl | (show entersB _ _ = true; kernel_rfl) | exact DW.same _ rfl | exact DW.ref _ _ _ rfl | exact DW.arr _ _ _ rfl | refine DW.int ?_ | refine dvb ?_ | refine dvi ?_ | exact OW.cells rfl rfl (DWl.same rfl) | skip
  all_goals repeat' (first | exact OW.cells rfl rfl (DWl.same rfl) | refine OW.cells rfl rfl ?_ | exact DW.nilArr _ rfl | refine DW.clol ?_ ?_ | refine DWl.cons ?_ ?_ | exact DWl.nil | exact DW.same _ rfl | exact DW.ref _ _ _ rfl | exact DW.arr _ _ _ rfl | refine DW.int ?_)
  all_goals try (simp_all; done)
  all_goals try (simp at *; omega)
  · exact eqL_len h
  · exact eqL_at ((stp_ne h).1 rfl)
  · rename_i e0 k hk e1
    refine take_succ_eq (d := step0) (eqL_lenF e0) hk.2 (lt_of_test e1) (Classical.byContradiction fun hc => ?_)
    have := (stp_ne h).2 hc
    cases this
  · rename_i e0 k hk e1
    exact wsucc (lt_of_test e1) ha
  · rename_i e0 k hk
    exact eqL_all (eqL_lenF e0) hk (ge_of_test h)
end Go.Proofs.Ytphgcgggbbcjgaa
