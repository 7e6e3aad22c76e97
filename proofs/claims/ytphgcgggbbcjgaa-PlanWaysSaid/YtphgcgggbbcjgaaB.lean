/- Pairs that fit. -/
import Derived.Test.YtphgcgggbbcjgaaA
namespace Go.Proofs.Ytphgcgggbbcjgaa
open Go.RowKit Go.Dl
attribute [local irreducible] Tri SCall DFun QSem PCall GCall MCall Round Weak dloadE OW DWl Tells IntKind.wrap Retold ESem

def aheadT (a b : Lk) : Int := if a.1 = b.1 then IntKind.i64.wrap (a.2 - b.2) else IntKind.i64.wrap (a.1 - b.1)
set_option maxRecDepth 20000 in
theorem ahead_D (a b : Lk) : DPure Try.prog 30 [.agg (linkD a), .agg (linkD b)] (int1 (aheadT a b)) := by
  refine DFun.body Try.func30 rfl (by kernel_rfl) ?_
  repeat' (first | with_reducible rfl | ((conv => whnf); first | refine And.intro ?_ ?_ | (intro h; first | exact Bool.noConfusion h | with_reducible exact h | (have ht : true = true := h; clear ht h) | skip) | ((with_reducible refine DWl.mark ?_); repeat' (first | refine DWl.cons ?_ ?_ | exact DWl.nil | exact DW.same _ rfl | exact DW.ref _ _ _ rfl | exact DW.arr _ _ _ rfl | exact DW.sub _ _ _ _ rfl | exact DW.nilLst _ | refine DW.aggl ?_ | refine DW.tupl ?_ | refine DW.clol ?_ ?_ | refine DW.int ?_ | refine DW.bool ?_ | refine DW.str ?_)) | refine dcell_ok rfl ?_ | refine AppC.new ?_))
  all_goals first | (with_reducible refine enters_mark ?_; kernel_rfl) | (with_reducible refine boolT_mark ?_; kernel_rfl) | rfl | trivial | assumption | exact Nat.le_of_ble_eq_true rfl | (show entersB _ _ = true; kernel_rfl) | exact DW.same _ rfl | exact DW.ref _ _ _ rfl | exact DW.arr _ _ _ rfl | refine DW.int ?_ | refine dvb ?_ | refine dvi ?_ | exact OW.cells rfl rfl (DWl.same rfl) | skip
  all_goals repeat' (first | exact OW.cells rfl rfl (DWl.same rfl) | refine OW.cells rfl rfl ?_ | exact DW.nilArr _ rfl | refine DW.clol ?_ ?_ | refine DWl.cons ?_ ?_ | exact DWl.nil | exact DW.same _ rfl | exact DW.ref _ _ _ rfl | exact DW.arr _ _ _ rfl | refine DW.int ?_)
  all_goals try (simp_all; done)
  all_goals try (simp at *; omega)
  · rw [aheadT, if_neg (by simpa using h)]
  · rw [aheadT, if_pos (by simpa using h)]

theorem eqL_len {α : Type} [DecidableEq α] {f : α → List DV} {a b : List α} (h : ((((a.map f).length : Nat) : Int) != ((b.map f).length : Nat)) = true) : false = decide (a = b) := by
  symm
  rw [decide_eq_false_iff_not]
  intro e; subst e; simp at h
theorem eqL_lenF {α : Type} {f : α → List DV} {a b : List α} (h : ((((a.map f).length : Nat) : Int) != ((b.map f).length : Nat)) = false) : a.length = b.length := by simp at h; omega
theorem eqL_at {α : Type} [DecidableEq α] {a b : List α} {d : α} {k : Nat} (h : a.getD k d ≠ b.getD k d) : false = decide (a = b) := by
  symm
  rw [decide_eq_false_iff_not]
  intro e; subst e; exact h rfl
theorem eqL_all {α : Type} [DecidableEq α] {a b : List α} {k : Nat} (hl : a.length = b.length) (hk : k ≤ a.length ∧ a.take k = b.take k) (h : a.length ≤ k) : true = decide (a = b) := by
  symm
  have h4 := hk.2
  rw [List.take_of_length_le h, List.take_of_length_le (by omega)] at h4
  simp [h4]
theorem lk_ne {x y : Lk} {b : Bool} (h : (!cellsEq [DV.v (Value.int IntKind.i64 x.1), DV.v (Value.int IntKind.i64 x.2)] [DV.v (Value.int IntKind.i64 y.1), DV.v (Value.int IntKind.i64 y.2)]) = b) : b = true ↔ x ≠ y := by
  subst h
  cases x; cases y
  simp [cellsEq, cellEq]
  grind
def sameSt (a b : List Lk) (k : Nat) : St := ⟨0, tmOf [(0, links a), (1, links b), (12, int1 (a.map linkD).length), (13, int1 k)], .of [] 0⟩
theorem same_D (a b : List Lk) : DPure Try.prog 10 [links a, links b] (.v (.bool (decide (a = b)))) := by
  refine DFun.bound 0 rfl fun ha => ?_
  have ha : a.length ≤ 9223372036854775807 := by simpa [maxLen] using ha
  refine DFun.body Try.func10 rfl (by kernel_rfl) ?_
  repeat' (first | with_reducible rfl | ((conv => whnf); first | refine And.intro ?_ ?_ | (intro h; first | exact Bool.noConfusion h | with_reducible exact h | (have ht : true = true := h; clear ht h) | skip) | ((with_reducible refine DWl.mark ?_); repeat' (first | refine DWl.cons ?_ ?_ | exact DWl.nil | exact DW.same _ rfl | exact DW.ref _ _ _ rfl | exact DW.arr _ _ _ rfl | exact DW.sub _ _ _ _ rfl | exact DW.nilLst _ | refine DW.aggl ?_ | refine DW.tupl ?_ | refine DW.clol ?_ ?_ | refine DW.int ?_ | refine DW.bool ?_ | refine DW.str ?_)) | ((with_reducible refine Tri.mark ?_); first | refine Tri.loop (sameSt a b) (fun k => k ≤ a.length ∧ a.take k = b.take k) (fun k => a.length - k) (0) (by kernel_rfl) (Weak.list [] [] ?_ ?_ ?_) ?_ ?_) | ((with_reducible refine Round.mark ?_); first | refine Round.go ((· + 1)) ?_ ?_ (Weak.list [] [] ?_ ?_ ?_)) | ((with_reducible refine ex_mark ?_); first | refine dq_eql k44 ?_ rfl ?_ rfl rfl ?_ | refine dq_neq k44 ?_ rfl ?_ rfl rfl ?_) | refine dloadE_map (lk0) ?_ ?_ | refine dcell_ok rfl ?_ | refine AppC.new ?_))
  all_goals first | (with_reducible refine enters_mark ?_; kernel_rfl) | (with_reducible refine boolT_mark ?_; kernel_rfl) | rfl | trivial | assumption | exact Nat.le_of_ble_eq_true rfl | (show entersB _ _ = true; kernel_rfl) | exact DW.same _ rfl | exact DW.ref _ _ _ rfl | exact DW.arr _ _ _ rfl | refine DW.int ?_ | refine dvb ?_ | refine dvi ?_ | exact OW.cells rfl rfl (DWl.same rfl) | skip
  all_goals repeat' (first | exact OW.cells rfl rfl (DWl.same rfl) | refine OW.cells rfl rfl ?_ | exact DW.nilArr _ rfl | refine DW.clol ?_ ?_ | refine DWl.cons ?_ ?_ | exact DWl.nil | exact DW.same _ rfl | exact DW.ref _ _ _ rfl | exact DW.arr _ _ _ rfl | refine DW.int ?_)
  all_goals try (simp_all; done)
  all_goals try (simp at *; omega)
  · exact eqL_len h
  · exact eqL_at ((lk_ne h).1 rfl)
  · rename_i e0 k hk e1
    refine take_succ_eq (d := lk0) (eqL_lenF e0) hk.2 (lt_of_test e1) (Classical.byContradiction fun hc => ?_)
    have := (lk_ne h).2 hc
    cases this
  · rename_i e0 k hk e1
    exact wsucc (lt_of_test e1) ha
  · rename_i e0 k hk
    exact eqL_all (eqL_lenF e0) hk (ge_of_test h)
def intsSt (a b : List Int) (k : Nat) : St := ⟨0, tmOf [(0, ints a), (1, ints b), (12, int1 (a.map intD).length), (13, int1 k)], .of [] 0⟩
theorem ints_D (a b : List Int) : DPure Try.prog 24 [ints a, ints b] (.v (.bool (decide (a = b)))) := by
  refine DFun.bound 0 rfl fun ha => ?_
  have ha : a.length ≤ 9223372036854775807 := by simpa [maxLen] using ha
  refine DFun.body Try.func24 rfl (by kernel_rfl) ?_
  repeat' (first | with_reducible rfl | ((conv => whnf); first | refine And.intro ?_ ?_ | (intro h; first | exact Bool.noConfusion h | with_reducible exact h | (have ht : true = true := h; clear ht h) | skip) | ((with_reducible refine DWl.mark ?_); repeat' (first | refine DWl.cons ?_ ?_ | exact DWl.nil | exact DW.same _ rfl | exact DW.ref _ _ _ rfl | exact DW.arr _ _ _ rfl | exact DW.sub _ _ _ _ rfl | exact DW.nilLst _ | refine DW.aggl ?_ | refine DW.tupl ?_ | refine DW.clol ?_ ?_ | refine DW.int ?_ | refine DW.bool ?_ | refine DW.str ?_)) | ((with_reducible refine Tri.mark ?_); first | refine Tri.loop (intsSt a b) (fun k => k ≤ a.length ∧ a.take k = b.take k) (fun k => a.length - k) (0) (by kernel_rfl) (Weak.list [] [] ?_ ?_ ?_) ?_ ?_) | ((with_reducible refine Round.mark ?_); first | refine Round.go ((· + 1)) ?_ ?_ (Weak.list [] [] ?_ ?_ ?_)) | refine dloadE_map (0) ?_ ?_ | refine dcell_ok rfl ?_ | refine AppC.new ?_))
  all_goals first | (with_reducible refine enters_mark ?_; kernel_rfl) | (with_reducible refine boolT_mark ?_; kernel_rfl) | rfl | trivial | assumption | exact Nat.le_of_ble_eq_true rfl | (show entersB _ _ = true; kernel_rfl) | exact DW.same _ rfl | exact DW.ref _ _ _ rfl | exact DW.arr _ _ _ rfl | refine DW.int ?_ | refine dvb ?_ | refine dvi ?_ | exact OW.cells rfl rfl (DWl.same rfl) | skip
  all_goals repeat' (first | exact OW.cells rfl rfl (DWl.same rfl) | refine OW.cells rfl rfl ?_ | exact DW.nilArr _ rfl | refine DW.clol ?_ ?_ | refine DWl.cons ?_ ?_ | exact DWl.nil | exact DW.same _ rfl | exact DW.ref _ _ _ rfl | exact DW.arr _ _ _ rfl | refine DW.int ?_)
  all_goals try (simp_all; done)
  all_goals try (simp at *; omega)
  · exact eqL_len h
  · exact eqL_at (by simpa using h)
  · rename_i e0 k hk e1
    exact take_succ_eq (d := 0) (eqL_lenF e0) hk.2 (lt_of_test e1) (by simpa using h)
  · rename_i e0 k hk e1
    exact wsucc (lt_of_test e1) ha
  · rename_i e0 k hk
    exact eqL_all (eqL_lenF e0) hk (ge_of_test h)

def lexB (a b : Lk) : Bool := decide (a.1 < b.1) || (a.1 == b.1 && decide (a.2 < b.2))
def okL (n : Int) (l : List Lk) (i : Nat) : Bool :=
  decide (0 ≤ (l.getD i lk0).1) && decide ((l.getD i lk0).1 < (l.getD i lk0).2) && decide ((l.getD i lk0).2 < n) && (i == 0 || lexB (l.getD (i - 1) lk0) (l.getD i lk0))
def fitB (n : Int) (l : List Lk) : Bool :=
  decide (1 ≤ n) && decide (n ≤ 16) && decide (∀ i, i < l.length → okL n l i = true) && decide (∀ v : Nat, v < n.toNat → degT l v ≤ 6)

def fitSt21 (n : Int) (l : List Lk) (k : Nat) : St := ⟨0, tmOf [(0, int1 n), (1, links l), (14, links l), (15, int1 (l.map linkD).length), (16, int1 k)], .of [] 0⟩
def degSt21 (n : Int) (l : List Lk) (k : Nat) : St := ⟨0, tmOf [(0, int1 n), (1, links l), (52, int1 n), (53, int1 k)], .of [] 0⟩
theorem okL_iff {n : Int} {l : List Lk} {i : Nat} : okL n l i = true ↔ 0 ≤ (l.getD i lk0).1 ∧ (l.getD i lk0).1 < (l.getD i lk0).2 ∧ (l.getD i lk0).2 < n ∧ (i = 0 ∨ lexB (l.getD (i - 1) lk0) (l.getD i lk0) = true) := by
  simp only [okL, Bool.and_eq_true, decide_eq_true_eq, Bool.or_eq_true, beq_iff_eq, and_assoc]
theorem ahead_lex {a b : Lk} (h1 : 0 ≤ a.1) (h2 : 0 ≤ a.2) (h3 : 0 ≤ b.1) (h4 : 0 ≤ b.2) (k1 : a.1 < 100) (k2 : a.2 < 100) (k3 : b.1 < 100) (k4 : b.2 < 100) : decide (0 ≤ aheadT a b) = !lexB a b := by
  unfold aheadT lexB
  split
  · rename_i e
    rw [wrapI (by omega) (by omega), Bool.eq_iff_iff]
    simp [e]
  · rename_i e
    rw [wrapI (by omega) (by omega), Bool.eq_iff_iff]
    simp [e]
theorem wpred {k n : Nat} (h0 : 0 < k) (h : k < n) (hn : n ≤ 9223372036854775807) : IntKind.i64.wrap ((k : Int) - 1) = ((k - 1 : Nat) : Int) := by
  have : (k : Int) - 1 = ((k - 1 : Nat) : Int) := by omega
  rw [this]; exact wrap64 (by omega)
theorem ok21 {n : Int} {l : List Lk} {k : Nat} (hn : n ≤ 16) (hl : l.length ≤ 9223372036854775807) (hk : k < l.length) (hj : ∀ j, j < k → okL n l j = true) :
    (bif bif bif decide ((l.getD k lk0).fst < 0) then true else decide ((l.getD k lk0).snd ≤ (l.getD k lk0).fst) then true else decide (n ≤ (l.getD k lk0).snd) then true else bif decide (0 < (k : Int)) then decide (0 ≤ aheadT (l.getD (IntKind.i64.wrap ((k : Int) - 1)).toNat lk0) (l.getD k lk0)) else false) = !okL n l k := by
  rcases Nat.eq_zero_or_pos k with rfl | h0
  · rw [Bool.eq_iff_iff]
    simp [okL]
    try omega
  · rw [wpred h0 hk hl]
    have h1 := okL_iff.1 (hj (k - 1) (by omega))
    generalize hb : l.getD k lk0 = b at *
    rw [Int.toNat_natCast]
    generalize ha : l.getD (k - 1) lk0 = a at *
    have e0 : okL n l k = (decide (0 ≤ b.1) && decide (b.1 < b.2) && decide (b.2 < n) && lexB a b) := by
      unfold okL
      rw [hb, ha]
      have : (k == 0) = false := by simp; omega
      rw [this, Bool.false_or]
    rw [e0]
    have e4 : decide ((0 : Int) < k) = true := by simp; omega
    rw [e4]
    by_cases c1 : 0 ≤ b.1
    · by_cases c2 : b.1 < b.2
      · by_cases c3 : b.2 < n
        · rw [ahead_lex (by omega) (by omega) (by omega) (by omega) (by omega) (by omega) (by omega) (by omega)]
          simp [c1, c2, show ¬ b.1 < 0 by omega, show ¬ b.2 ≤ b.1 by omega, show ¬ n ≤ b.2 by omega, c3]
        · simp [c1, c2, c3, show n ≤ b.2 by omega]
      · simp [c1, c2, show b.2 ≤ b.1 by omega]
    · simp [c1, show b.1 < 0 by omega]
theorem fitB_no {n : Int} {l : List Lk} {k : Nat} (hk : k < l.length) (h : okL n l k = false) : false = fitB n l := by
  symm
  unfold fitB
  simp only [Bool.and_eq_false_iff, decide_eq_false_iff_not]
  exact .inl (.inr fun hh => by rw [hh k hk] at h; cases h)
theorem fitB_noD {n : Int} {l : List Lk} {k : Nat} (hk : k < n.toNat) (h : 6 < degT l k) : false = fitB n l := by
  symm
  unfold fitB
  simp only [Bool.and_eq_false_iff, decide_eq_false_iff_not]
  exact .inr fun hh => by have := hh k hk; omega
theorem fitB_iff {n : Int} {l : List Lk} : fitB n l = true ↔ 1 ≤ n ∧ n ≤ 16 ∧ (∀ i, i < l.length → okL n l i = true) ∧ ∀ v : Nat, v < n.toNat → degT l v ≤ 6 := by
  simp only [fitB, Bool.and_eq_true, decide_eq_true_eq, and_assoc]
theorem headF (n : Int) : (bif decide (n < 1) then true else decide (16 < n)) = !(decide (1 ≤ n) && decide (n ≤ 16)) := by
  rw [Bool.eq_iff_iff]; simp; try omega
theorem fitB_head {n : Int} {l : List Lk} (h : (bif decide (n < 1) then true else decide (16 < n)) = true) : false = fitB n l := by
  rw [headF] at h
  unfold fitB
  rw [Bool.not_eq_true'] at h
  rw [h]; rfl
theorem fit_headF {n : Int} (h : (bif decide (n < 1) then true else decide (16 < n)) = false) : 1 ≤ n ∧ n ≤ 16 := by
  rw [headF] at h
  simpa using h
set_option maxRecDepth 20000 in
theorem fit21_D (n : Int) (l : List Lk) : DPure Try.prog 21 [int1 n, links l] (.v (.bool (fitB n l))) := by
  refine DFun.bound 1 rfl fun ha => ?_
  have ha : l.length ≤ 9223372036854775807 := by simpa [maxLen] using ha
  refine DFun.body Try.func21 rfl (by kernel_rfl) ?_
  repeat' (first | with_reducible rfl | ((conv => whnf); first | refine And.intro ?_ ?_ | (intro h; first | exact Bool.noConfusion h | with_reducible exact h | (have ht : true = true := h; clear ht h) | skip) | ((with_reducible refine DWl.mark ?_); repeat' (first | refine DWl.cons ?_ ?_ | exact DWl.nil | exact DW.same _ rfl | exact DW.ref _ _ _ rfl | exact DW.arr _ _ _ rfl | exact DW.sub _ _ _ _ rfl | exact DW.nilLst _ | refine DW.aggl ?_ | refine DW.tupl ?_ | refine DW.clol ?_ ?_ | refine DW.int ?_ | refine DW.bool ?_ | refine DW.str ?_)) | ((with_reducible refine SCall.mark ?_); first | refine SCall.data (ahead_D _ _) rfl rfl ?_ | refine SCall.scal (ahead_D _ _) rfl rfl ?_ | refine SCall.data (deg22_D _ _) rfl rfl ?_ | refine SCall.scal (deg22_D _ _) rfl rfl ?_) | ((with_reducible refine PCall.mark ?_); first | refine PCall.mk (ahead_D _ _) rfl rfl ?_ | refine PCall.mk (deg22_D _ _) rfl rfl ?_) | ((with_reducible refine GCall.mark ?_); first | refine GCall.data (fun _ => ahead_D _ _) rfl rfl ?_ | refine GCall.scal (fun _ => ahead_D _ _) rfl rfl ?_ | refine GCall.data (fun _ => deg22_D _ _) rfl rfl ?_ | refine GCall.scal (fun _ => deg22_D _ _) rfl rfl ?_) | ((with_reducible refine MCall.mark ?_); first | refine MCall.data (fun _ => ahead_D _ _) rfl rfl ?_ | refine MCall.plain (PCall.mk (ahead_D _ _) rfl rfl ?_) | refine MCall.data (fun _ => deg22_D _ _) rfl rfl ?_ | refine MCall.plain (PCall.mk (deg22_D _ _) rfl rfl ?_)) | ((with_reducible refine Tri.mark ?_); first | (refine Tri.at (16) (int1 0) (by rfl) ?_; refine Tri.loop (fitSt21 n l) (fun k => k ≤ l.length ∧ ∀ j, j < k → okL n l j = true) (fun k => l.length - k) (0) (by kernel_rfl) (Weak.list [] [] ?_ ?_ ?_) ?_ ?_) | (refine Tri.at (53) (int1 0) (by rfl) ?_; refine Tri.loop (degSt21 n l) (fun k => k ≤ n.toNat ∧ ∀ j : Nat, j < k → degT l j ≤ 6) (fun k => n.toNat - k) (0) (by kernel_rfl) (Weak.list [] [] ?_ ?_ ?_) ?_ ?_)) | ((with_reducible refine Round.mark ?_); first | refine Round.go ((· + 1)) ?_ ?_ (Weak.list [] [] ?_ ?_ ?_)) | refine dloadE_map (lk0) ?_ ?_ | refine dcell_ok rfl ?_ | refine AppC.new ?_))
  all_goals first | (with_reducible refine enters_mark ?_; kernel_rfl) | (with_reducible refine boolT_mark ?_; kernel_rfl) | rfl | trivial | assumption | exact Nat.le_of_ble_eq_true rfl | (show entersB _ _ = true; kernel_rfl) | exact DW.same _ rfl | exact DW.ref _ _ _ rfl | exact DW.arr _ _ _ rfl | refine DW.int ?_ | refine dvb ?_ | refine dvi ?_ | exact OW.cells rfl rfl (DWl.same rfl) | skip
  all_goals repeat' (first | exact OW.cells rfl rfl (DWl.same rfl) | refine OW.cells rfl rfl ?_ | exact DW.nilArr _ rfl | refine DW.clol ?_ ?_ | refine DWl.cons ?_ ?_ | exact DWl.nil | exact DW.same _ rfl | exact DW.ref _ _ _ rfl | exact DW.arr _ _ _ rfl | refine DW.int ?_)
  all_goals try (simp_all; done)
  all_goals try (simp at *; omega)
  · exact fitB_head h
  · rename_i e0 k hk e1
    have : 0 < k := by simp at h; omega
    rw [wpred this (lt_of_test e1) ha]; omega
  · rename_i e0 k hk e1
    have : 0 < k := by simp at h; omega
    rw [wpred this (lt_of_test e1) ha]; simp at e1 ⊢; omega
  · rename_i e0 k hk e1
    have : 0 < k := by simp at h; omega
    rw [wpred this (lt_of_test e1) ha]; simp at e1 ⊢; omega
  · rename_i e0 k hk e1
    have := (ok21 (fit_headF e0).2 ha (lt_of_test e1) hk.2).symm.trans h
    exact fitB_no (lt_of_test e1) (by simpa using this)
  · rename_i e0 k hk e1 e2 j
    rcases Nat.lt_or_ge j k with h1 | h1
    · exact hk.2 j h1
    · have : j = k := by omega
      subst this
      have := (ok21 (fit_headF e0).2 ha (lt_of_test e1) hk.2).symm.trans e2
      simpa using this
  · rename_i e0 k hk e1
    exact wsucc (lt_of_test e1) ha
  · rename_i e0 k0 hk0 e1 k hk e2
    exact fitB_noD (k := k) (by simp at e2; omega) (by simp at h; omega)
  · rename_i e0 k0 hk0 e1 k hk e2 e3 j
    rcases Nat.lt_or_ge j k with h1 | h1
    · exact hk.2 j h1
    · have : j = k := by omega
      subst this
      simp at e3; omega
  · rename_i e0 k0 hk0 e1 k hk e2
    have := fit_headF e0
    exact wsucc (n := 16) (by simp at e2; omega) (by omega)
  · rename_i e0 k0 hk0 e1 k hk
    have h1 := fit_headF e0
    have h2 := ge_of_test e1
    refine (fitB_iff.2 ⟨h1.1, h1.2, fun i hi => hk0.2 i (by omega), fun v hv => hk.2 v ?_⟩).symm
    simp at h; omega

def fitSt14 (n : Int) (l : List Lk) (k : Nat) : St := ⟨0, tmOf [(0, int1 n), (1, links l), (5, int1 k)], .of [] 0⟩
def okD (l : List Lk) (i : Nat) : Bool := decide (degT l (l.getD i lk0).1 ≤ 6) && decide (degT l (l.getD i lk0).2 ≤ 6)
theorem t14a {x : Lk} {n : Int} {dA dB : Nat} {b : Bool} (h : (bif bif bif bif decide (x.1 < 0) then true else decide (n ≤ x.2) then true else decide (x.2 ≤ x.1) then true else decide ((6 : Int) < (dA : Nat)) then true else decide ((6 : Int) < (dB : Nat))) = b) :
    b = false ↔ 0 ≤ x.1 ∧ x.1 < x.2 ∧ x.2 < n ∧ dA ≤ 6 ∧ dB ≤ 6 := by
  subst h
  simp
  omega
theorem t14b {a b : Lk} {k : Nat} {r : Bool} (h : (bif decide (0 < (k : Int)) then bif decide (b.1 < a.1) then true else bif a.1 == b.1 then decide (b.2 ≤ a.2) else false else false) = r) : r = false ↔ k = 0 ∨ lexB a b = true := by
  subst h
  unfold lexB
  rcases Nat.eq_zero_or_pos k with rfl | h0
  · simp
  · have : ¬ k = 0 := by omega
    rcases Int.lt_trichotomy a.1 b.1 with h1 | h1 | h1
    · simp [h0, h1, this, show ¬ b.1 < a.1 by omega, show ¬ a.1 = b.1 by omega]
    · simp [h0, h1, this]
    · simp [h0, h1, this, show ¬ a.1 < b.1 by omega, show ¬ a.1 = b.1 by omega]
theorem lex_code {a b : Lk} {n : Int} (hn : 0 ≤ n) (ha : 0 ≤ a.1) (ha2 : a.2 < n) (hb : 0 ≤ b.2) (h : lexB a b = true) : a.1 * n + a.2 + 1 ≤ b.1 * n + b.2 := by
  simp [lexB] at h
  rcases h with h | ⟨h1, h2⟩
  · have := Int.mul_le_mul_of_nonneg_right (show a.1 + 1 ≤ b.1 by omega) hn
    rw [Int.add_mul] at this
    omega
  · rw [h1]; omega
theorem code_ge {n : Int} {l : List Lk} (hn : 0 ≤ n) (h : ∀ i, i < l.length → okL n l i = true) : ∀ i : Nat, i < l.length → (i : Int) ≤ (l.getD i lk0).1 * n + (l.getD i lk0).2 := fun i => by
  induction i with
  | zero =>
    intro hi
    have := okL_iff.1 (h 0 hi)
    have := Int.mul_nonneg this.1 hn
    omega
  | succ i ih =>
    intro hi
    have h1 := ih (by omega)
    have h2 := okL_iff.1 (h (i + 1) hi)
    have h3 := okL_iff.1 (h i (by omega))
    have h4 := lex_code hn h3.1 h3.2.2.1 (by omega) (h2.2.2.2.resolve_left (by omega))
    omega
theorem len_sq {n : Int} {l : List Lk} (hn : 0 ≤ n) (h : ∀ i, i < l.length → okL n l i = true) : (l.length : Int) ≤ n * n := by
  rcases Nat.eq_zero_or_pos l.length with h0 | h0
  · rw [h0]; exact Int.mul_nonneg hn hn
  · have h1 := code_ge hn h (l.length - 1) (by omega)
    have h2 := okL_iff.1 (h (l.length - 1) (by omega))
    have h3 := Int.mul_le_mul_of_nonneg_right (show (l.getD (l.length - 1) lk0).1 + 1 ≤ n by omega) hn
    rw [Int.add_mul] at h3
    omega
theorem deg_pos {l : List Lk} {v : Int} (h : 0 < degT l v) : ∃ i, i < l.length ∧ ((l.getD i lk0).1 = v ∨ (l.getD i lk0).2 = v) := by
  obtain ⟨x, hx, hp⟩ := List.countP_pos_iff.1 h
  obtain ⟨i, hi, e⟩ := List.mem_iff_getElem.1 hx
  refine ⟨i, hi, ?_⟩
  rw [List.getD_eq_getElem?_getD, List.getElem?_eq_getElem hi, Option.getD_some, e]
  simpa [inB] using hp
theorem fit_ends {n : Int} {l : List Lk} (h : fitB n l = true) {i : Nat} (hi : i < l.length) : okD l i = true := by
  obtain ⟨h1, h2, h3, h4⟩ := fitB_iff.1 h
  have h5 := okL_iff.1 (h3 i hi)
  have a1 := h4 (l.getD i lk0).1.toNat (by omega)
  have a2 := h4 (l.getD i lk0).2.toNat (by omega)
  rw [Int.toNat_of_nonneg (by omega)] at a1 a2
  simp only [okD, a1, a2, decide_true, Bool.and_self]
theorem fit_of_ends {n : Int} {l : List Lk} (h1 : 1 ≤ n) (h2 : n ≤ 16) (h : ∀ i, i < l.length → okL n l i = true ∧ okD l i = true) : fitB n l = true := by
  refine fitB_iff.2 ⟨h1, h2, fun i hi => (h i hi).1, fun v hv => ?_⟩
  rcases Nat.eq_zero_or_pos (degT l v) with h0 | h0
  · omega
  · obtain ⟨i, hi, e⟩ := deg_pos h0
    have := (h i hi).2
    simp only [okD, Bool.and_eq_true, decide_eq_true_eq] at this
    rcases e with e | e <;> rw [e] at this
    · exact this.1
    · exact this.2
set_option maxRecDepth 20000 in
theorem fit14_D (n : Int) (l : List Lk) : DPure Try.prog 14 [int1 n, links l] (.v (.bool (fitB n l))) := by
  refine DFun.bound 1 rfl fun ha => ?_
  have ha : l.length ≤ 9223372036854775807 := by simpa [maxLen] using ha
  refine DFun.body Try.func14 rfl (by kernel_rfl) ?_
  repeat' (first | with_reducible rfl | ((conv => whnf); first | refine And.intro ?_ ?_ | (intro h; first | exact Bool.noConfusion h | with_reducible exact h | (have ht : true = true := h; clear ht h) | skip) | ((with_reducible refine DWl.mark ?_); repeat' (first | refine DWl.cons ?_ ?_ | exact DWl.nil | exact DW.same _ rfl | exact DW.ref _ _ _ rfl | exact DW.arr _ _ _ rfl | exact DW.sub _ _ _ _ rfl | exact DW.nilLst _ | refine DW.aggl ?_ | refine DW.tupl ?_ | refine DW.clol ?_ ?_ | refine DW.int ?_ | refine DW.bool ?_ | refine DW.str ?_)) | ((with_reducible refine SCall.mark ?_); first | refine SCall.data (deg23_D _ _) rfl rfl ?_ | refine SCall.scal (deg23_D _ _) rfl rfl ?_) | ((with_reducible refine PCall.mark ?_); first | refine PCall.mk (deg23_D _ _) rfl rfl ?_) | ((with_reducible refine GCall.mark ?_); first | refine GCall.data (fun _ => deg23_D _ _) rfl rfl ?_ | refine GCall.scal (fun _ => deg23_D _ _) rfl rfl ?_) | ((with_reducible refine MCall.mark ?_); first | refine MCall.data (fun _ => deg23_D _ _) rfl rfl ?_ | refine MCall.plain (PCall.mk (deg23_D _ _) rfl rfl ?_)) | ((with_reducible refine Tri.mark ?_); first | refine Tri.loop (fitSt14 n l) (fun k => k ≤ l.length ∧ ∀ j, j < k → okL n l j = true ∧ okD l j = true) (fun k => l.length - k) (0) (by kernel_rfl) (Weak.list [] [] ?_ ?_ ?_) ?_ ?_) | ((with_reducible refine Round.mark ?_); first | refine Round.go ((· + 1)) ?_ ?_ (Weak.list [] [] ?_ ?_ ?_)) | refine dloadE_map (lk0) ?_ ?_ | refine dcell_ok rfl ?_ | refine AppC.new ?_))
  all_goals first | (with_reducible refine enters_mark ?_; kernel_rfl) | (with_reducible refine boolT_mark ?_; kernel_rfl) | rfl | trivial | assumption | exact Nat.le_of_ble_eq_true rfl | (show entersB _ _ = true; kernel_rfl) | exact DW.same _ rfl | exact DW.ref _ _ _ rfl | exact DW.arr _ _ _ rfl | refine DW.int ?_ | refine dvb ?_ | refine dvi ?_ | exact OW.cells rfl rfl (DWl.same rfl) | skip
  all_goals repeat' (first | exact OW.cells rfl rfl (DWl.same rfl) | refine OW.cells rfl rfl ?_ | exact DW.nilArr _ rfl | refine DW.clol ?_ ?_ | refine DWl.cons ?_ ?_ | exact DWl.nil | exact DW.same _ rfl | exact DW.ref _ _ _ rfl | exact DW.arr _ _ _ rfl | refine DW.int ?_)
  all_goals try (simp_all; done)
  all_goals try (simp at *; omega)
  · cases hf : fitB n l with
    | false => rfl
    | true =>
      exfalso
      obtain ⟨h1, h2, h3, h4⟩ := fitB_iff.1 hf
      have h5 := len_sq (by omega) h3
      have h6 : n * n ≤ 16 * n := Int.mul_le_mul_of_nonneg_right h2 (by omega)
      rw [wrapI (by omega) (by omega)] at h
      simp at h
      omega
  · rename_i e0 k hk e1
    cases hf : fitB n l with
    | false => rfl
    | true =>
      exfalso
      have h1 := okL_iff.1 ((fitB_iff.1 hf).2.2.1 k (lt_of_test e1))
      have h2 := fit_ends hf (lt_of_test e1)
      simp only [okD, Bool.and_eq_true, decide_eq_true_eq] at h2
      have := (t14a h).2 ⟨h1.1, h1.2.1, h1.2.2.1, h2.1, h2.2⟩
      cases this
  all_goals try (rename_i e0 k hk e1 e2; (have h0 : 0 < k := by simp at h; omega); rw [wpred h0 (lt_of_test e1) ha]; first | omega | (simp at e1 ⊢; omega))
  · rename_i e0 k hk e1 e2
    cases hf : fitB n l with
    | false => rfl
    | true =>
      exfalso
      have h1 := okL_iff.1 ((fitB_iff.1 hf).2.2.1 k (lt_of_test e1))
      rcases Nat.eq_zero_or_pos k with h0 | h0
      · have := (t14b h).2 (.inl h0); cases this
      · rw [wpred h0 (lt_of_test e1) ha] at h
        have := (t14b h).2 h1.2.2.2; cases this
  · rename_i e0 k hk e1 e2 e3 j
    rcases Nat.lt_or_ge j k with h1 | h1
    · exact (hk.2 j h1).1
    · have : j = k := by omega
      subst this
      have h2 := (t14a e2).1 rfl
      refine okL_iff.2 ⟨h2.1, h2.2.1, h2.2.2.1, ?_⟩
      rcases Nat.eq_zero_or_pos j with h0 | h0
      · exact .inl h0
      · rw [wpred h0 (lt_of_test e1) ha] at e3
        exact (t14b e3).1 rfl
  · rename_i e0 k hk e1 e2 e3 j
    rcases Nat.lt_or_ge j k with h1 | h1
    · exact (hk.2 j h1).2
    · have : j = k := by omega
      subst this
      have h2 := (t14a e2).1 rfl
      simp only [okD, Bool.and_eq_true, decide_eq_true_eq]
      exact h2.2.2.2
  · rename_i e0 k hk e1 e2
    exact wsucc (lt_of_test e1) ha
  · rename_i e0 k hk
    have h1 : 1 ≤ n ∧ n ≤ 16 := by simp at e0; omega
    have h2 := ge_of_test h
    exact (fit_of_ends h1.1 h1.2 fun i hi => hk.2 i (by omega)).symm
end Go.Proofs.Ytphgcgggbbcjgaa
