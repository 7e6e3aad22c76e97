/- How far each node is from one: the program's answer. -/
import Derived.Test.YtphgcgggbbcjgaaE
namespace Go.Proofs.Ytphgcgggbbcjgaa
open Go.RowKit Go.Dl
attribute [local irreducible] Tri SCall DFun QSem PCall GCall MCall Round Weak dloadE OW DWl Tells Retold ESem

def cntD (D : List Int) : Nat := D.countP fun x => decide (0 ≤ x)
theorem cnt_set {D : List Int} {b : Nat} {w : Int} (hb : b < D.length) (h : D.getD b 0 < 0) (hw : 0 ≤ w) : cntD (D.set b w) = cntD D + 1 := by
  unfold cntD
  induction D generalizing b with
  | nil => simp at hb
  | cons x D ih =>
    cases b with
    | zero =>
      simp at h
      simp [List.countP_cons, show ¬ 0 ≤ x by omega, hw]
    | succ b =>
      simp only [List.set_cons_succ, List.countP_cons]
      rw [ih (by simpa using hb) (by simpa using h)]
      omega
theorem relax_cnt {r : Nat} {D : List Int} {a b : Nat} (hb : b < D.length) : cntD D ≤ cntD (relax r D a b) := by
  unfold relax
  split
  · rename_i h
    unfold relaxT at h
    have : D.getD b 0 < 0 := by
      cases hh : D.getD a 0 == (r : Int) <;> rw [hh] at h <;> simp at h
      simpa using h
    rw [cnt_set hb this (by omega)]; omega
  · exact Nat.le_refl _
theorem relax_le {r : Nat} {D : List Int} {a b : Nat} {m : Int} (hm : (r : Int) + 1 ≤ m) (h : ∀ x ∈ D, x ≤ m) : ∀ x ∈ relax r D a b, x ≤ m := by
  unfold relax
  split
  · intro x hx
    rcases List.mem_or_eq_of_mem_set hx with h1 | h1
    · exact h x h1
    · omega
  · exact h
theorem fold_le {r : Nat} {m : Int} (hm : (r : Int) + 1 ≤ m) (l : List Lk) : ∀ D : List Int, (∀ x ∈ D, x ≤ m) → ∀ x ∈ l.foldl (stepD r) D, x ≤ m := by
  induction l with
  | nil => intro D h; exact h
  | cons y l ih => intro D h; exact ih _ (relax_le hm (relax_le hm h))
theorem rounds_le (n : Nat) (l : List Lk) (f : Int) (k : Nat) : ∀ x ∈ roundsD n l f k, x ≤ (k : Int) := by
  induction k with
  | zero =>
    intro x hx
    rcases List.mem_or_eq_of_mem_set hx with h1 | h1
    · have := (List.mem_replicate.1 h1).2; omega
    · omega
  | succ k ih =>
    rw [rounds_succ]
    exact fold_le (by omega) l _ fun x hx => by have := ih x hx; omega
theorem relax_none {r : Nat} {D : List Int} {a b : Nat} (ha : a < D.length) (h : ∀ x ∈ D, x < (r : Int)) : relax r D a b = D := by
  unfold relax
  rw [if_neg]
  unfold relaxT
  have h1 : D.getD a 0 < r := by
    rw [List.getD_eq_getElem?_getD, List.getElem?_eq_getElem ha]; exact h _ (List.getElem_mem ha)
  have : (D.getD a 0 == (r : Int)) = false := by simp only [beq_eq_false_iff_ne]; omega
  rw [this]; exact Bool.false_ne_true
theorem round_none {r : Nat} {D : List Int} {l : List Lk} (hl : inN D.length l) (h : ∀ x ∈ D, x < (r : Int)) : roundD l D r = D := by
  unfold roundD
  induction l with
  | nil => rfl
  | cons y l ih =>
    have h0 := hl 0 (by simp)
    simp only [List.getD_cons_zero] at h0
    have e : stepD r D y = D := by
      unfold stepD
      rw [relax_none (by omega) h, relax_none (by omega) h]
    rw [List.foldl_cons, e]
    exact ih fun i hi => by have := hl (i + 1) (by simpa using hi); simpa using this
theorem rounds_stay {n : Nat} {l : List Lk} {f : Int} {k : Nat} (hl : inN n l) (h : roundD l (roundsD n l f k) k = roundsD n l f k) : ∀ j, roundsD n l f (k + j) = roundsD n l f k := fun j => by
  induction j with
  | zero => rfl
  | succ j ih =>
    rw [← Nat.add_assoc, rounds_succ, ih]
    cases j with
    | zero => exact h
    | succ j => exact round_none (by rw [roundsD_len]; exact hl) fun x hx => by have := rounds_le n l f k x hx; omega

def fillSt18 (n : Nat) (l : List Lk) (f : Int) (k : Nat) : St := ⟨0, tmOf [(0, int1 n), (1, links l), (2, int1 f), (7, .arr 0 n), (18, int1 n), (19, int1 k)], .of [(0, ⟨3, 1, rowC (fillL n k)⟩)] 1⟩
def rndSt18 (n : Nat) (l : List Lk) (f : Int) (k : Nat) : St := ⟨0, tmOf [(0, int1 n), (1, links l), (7, .arr 0 n), (9, int1 k)], .of [(0, ⟨3, 1, rowC (roundsD n l f k)⟩)] 1⟩
def linS18 (n : Nat) (l : List Lk) (r i : Nat) (D : List Int) (m : Bool) : St := ⟨0, tmOf [(0, int1 n), (1, links l), (7, .arr 0 n), (9, int1 r), (10, .v (.bool m)), (39, links l), (40, int1 (l.map linkD).length), (41, int1 i)], .of [(0, ⟨3, 1, rowC D⟩)] 1⟩
def linSt18 (n : Nat) (l : List Lk) (r : Nat) (x : Nat × List Int × Bool) : St := linS18 n l r x.1 x.2.1 x.2.2
def linPre18 (l : List Lk) (r : Nat) (D0 : List Int) (x : Nat × List Int × Bool) : Prop := x.1 ≤ l.length ∧ x.2.1 = (l.take x.1).foldl (stepD r) D0 ∧ (x.2.2 = false → x.2.1 = D0) ∧ (x.2.2 = true → cntD D0 + 1 ≤ cntD x.2.1)
def rndPre18 (n : Nat) (l : List Lk) (f : Int) (k : Nat) : Prop := k + 1 ≤ cntD (roundsD n l f k)
theorem cnt_le {n : Nat} {l : List Lk} {f : Int} {k : Nat} : cntD (roundsD n l f k) ≤ n := by
  have h : cntD (roundsD n l f k) ≤ (roundsD n l f k).length := List.countP_le_length
  rwa [roundsD_len] at h
theorem cnt_start {n : Nat} {l : List Lk} {f : Int} (hf : 0 ≤ f ∧ f < n) : rndPre18 n l f 0 := by
  show 1 ≤ cntD ((List.replicate n (-1)).set f.toNat 0)
  rw [cnt_set (by simp; omega) (by rw [List.getD_eq_getElem?_getD, List.getElem?_replicate, if_pos (by omega)]; decide) (by decide)]
  omega
theorem relax_yes {D : List Int} {k a b : Nat} (h : (bif D.getD a 0 == (k : Int) then decide (D.getD b 0 < 0) else false) = true) : relax k D a b = D.set b ((k : Int) + 1) ∧ D.getD b 0 < 0 := by
  refine ⟨by unfold relax; rw [if_pos (by unfold relaxT; exact h)], ?_⟩
  cases hh : D.getD a 0 == (k : Int) <;> rw [hh] at h <;> simp at h
  simpa using h
theorem relax_no {D : List Int} {k a b : Nat} (h : (bif D.getD a 0 == (k : Int) then decide (D.getD b 0 < 0) else false) = false) : relax k D a b = D := by
  unfold relax; rw [if_neg (by unfold relaxT; rw [h]; exact Bool.false_ne_true)]
theorem step_same {D : List Int} {x : Lk} {k : Nat} (h1 : (bif D.getD (x.1.toNat * 1) 0 == (k : Int) then decide (D.getD (x.2.toNat * 1) 0 < 0) else false) = false)
    (h2 : (bif D.getD (x.2.toNat * 1) 0 == (k : Int) then decide (D.getD (x.1.toNat * 1) 0 < 0) else false) = false) : stepD k D x = D := by
  rw [mul1, mul1] at h1 h2
  unfold stepD
  rw [relax_no h1, relax_no h2]
theorem cnt_tf {D : List Int} {x : Lk} {k : Nat} (ha : x.1.toNat < D.length) (hb : x.2.toNat < D.length) (h1 : (bif D.getD (x.1.toNat * 1) 0 == (k : Int) then decide (D.getD (x.2.toNat * 1) 0 < 0) else false) = true) : cntD D + 1 ≤ cntD (stepD k D x) := by
  rw [mul1, mul1] at h1
  obtain ⟨e1, e2⟩ := relax_yes h1
  unfold stepD
  refine Nat.le_trans ?_ (relax_cnt (by rw [relax_len]; exact ha))
  rw [e1, cnt_set hb e2 (by omega)]; omega
theorem cnt_ft {D : List Int} {x : Lk} {k : Nat} (ha : x.1.toNat < D.length) (h1 : (bif D.getD (x.1.toNat * 1) 0 == (k : Int) then decide (D.getD (x.2.toNat * 1) 0 < 0) else false) = false)
    (h2 : (bif D.getD (x.2.toNat * 1) 0 == (k : Int) then decide (D.getD (x.1.toNat * 1) 0 < 0) else false) = true) : cntD D + 1 ≤ cntD (stepD k D x) := by
  rw [mul1, mul1] at h1 h2
  obtain ⟨e1, e2⟩ := relax_yes h2
  unfold stepD
  rw [relax_no h1, e1, cnt_set ha e2 (by omega)]; omega
theorem OwnR.mark {n : Nat} {D : List Int} {r : DV} {s : Sto} (h : OwnR n D r s) : OwnR n D r s := h
theorem notT {b : Bool} {Q : Prop} (h : b = true) (h' : b = false) : Q := by rw [h'] at h; cases h
theorem notF {b : Bool} {Q : Prop} (h : b = false) (h' : b = true) : Q := by rw [h'] at h; cases h
attribute [local irreducible] rowC stepD roundsD relax fillL distT cntD OwnR
set_option maxRecDepth 100000 in
set_option maxHeartbeats 1000000 in
theorem dist18_O (n : Nat) (l : List Lk) (f : Int) (hn : n ≤ 1000) (hl : inN n l) : DFun Try.prog 18 [int1 n, links l, int1 f] (OwnR n (distT n l f)) := by
  refine DFun.bound 1 rfl fun ha => ?_
  have ha : l.length ≤ 9223372036854775807 := by simpa [maxLen] using ha
  refine DFun.body Try.func18 rfl (by kernel_rfl) ?_
  repeat' (first | with_reducible rfl | ((conv => whnf); first | refine And.intro ?_ ?_ | (intro h; first | exact Bool.noConfusion h | with_reducible exact h | (have ht : true = true := h; clear ht h) | skip) | ((with_reducible refine DWl.mark ?_); repeat' (first | refine DWl.cons ?_ ?_ | exact DWl.nil | exact DW.same _ rfl | exact DW.ref _ _ _ rfl | exact DW.arr _ _ _ rfl | exact DW.sub _ _ _ _ rfl | exact DW.nilLst _ | refine DW.aggl ?_ | refine DW.tupl ?_ | refine DW.clol ?_ ?_ | refine DW.int ?_ | refine DW.bool ?_ | refine DW.str ?_)) | ((with_reducible refine Tri.mark ?_); first | refine Tri.scope (by kernel_rfl) ?_ | (refine Tri.at (19) (int1 0) (by rfl) ?_; refine Tri.loop (fillSt18 n l f) ((· ≤ n)) (fun k => n - k) (0) (by kernel_rfl) (Weak.list [(0, some 0)] [] ?_ ?_ ?_) ?_ ?_) | (refine Tri.at (9) (int1 0) (by rfl) ?_; refine Tri.loop (rndSt18 n l f) (rndPre18 n l f) (fun k => n - k) (0) (by kernel_rfl) (Weak.list [(0, some 0)] [] ?_ ?_ ?_) ?_ ?_)) | refine dloadE_map (lk0) ?_ ?_ | refine dcell_set ?_ ?_ | refine dcell_row ?_ ?_ | refine dcell_ok rfl ?_ | refine AppC.new ?_))
  all_goals first | (with_reducible refine enters_mark ?_; kernel_rfl) | (with_reducible refine boolT_mark ?_; kernel_rfl) | rfl | trivial | assumption | exact Nat.le_of_ble_eq_true rfl | (show entersB _ _ = true; kernel_rfl) | exact DW.same _ rfl | exact DW.ref _ _ _ rfl | exact DW.arr _ _ _ rfl | refine DW.int ?_ | refine dvb ?_ | refine dvi ?_ | exact OW.cells rfl rfl (DWl.same rfl) | exact Nat.zero_le _ | omega | skip
  all_goals repeat' (first | refine OW.cells rfl rfl ?_ | exact DW.nilArr _ rfl | refine DWl.cons ?_ ?_ | exact DWl.nil | exact DW.same _ rfl | exact DW.ref _ _ _ rfl | exact DW.arr _ _ _ rfl | exact DW.sub _ _ _ _ rfl | exact DW.nilLst _ | refine DW.aggl ?_ | refine DW.tupl ?_ | refine DW.clol ?_ ?_)
  all_goals try ((conv => whnf); with_reducible first | refine Round.mark ?_ | refine Tells.mark ?_ | refine Retold.mark ?_)
  all_goals try first | (show (_ : Bool) = _; simp_all; done) | (show (_ : Int) < _; simp at *; omega) | (show (_ : Int) ≤ _; simp at *; omega) | (show (_ : Nat) < _; simp at *; omega) | (show (_ : Nat) ≤ _; simp at *; omega)
  · show (n : Int) * 8 ≤ _
    omega
  · exact DWl.eq (fill0 n) (rowC_all _)
  · rename_i k hk
    show (k : Int).toNat * 1 + 1 ≤ (rowC (fillL n k)).length
    have := lt_int h
    rw [rowC_len, fill_len hk]; omega
  · rename_i k hk
    refine Round.go (· + 1) (lt_int h) (by have := lt_int h; show n - (k + 1) < n - k; omega) (Weak.list [(0, some 0)] [] (by kernel_rfl) ?_ ?_)
    · repeat' (first | exact wsucc (lt_int h) (by omega) | exact DWl.eq ((rowC_set _ _ _).trans (congrArg rowC (by rw [Int.toNat_natCast, Nat.mul_one]; exact fill_set (lt_int h)))) (rowC_all _) | exact DW.same _ rfl | exact DW.ref _ _ _ rfl | exact DW.arr _ _ _ rfl | exact OW.cells rfl rfl (DWl.same rfl) | refine OW.cells rfl rfl ?_ | refine DWl.cons ?_ ?_ | exact DWl.nil | exact DW.nilArr _ rfl | exact DW.nilLst _ | refine DW.clol ?_ ?_ | refine DW.aggl ?_ | refine DW.tupl ?_ | refine DW.int ?_ | refine DW.bool ?_ | refine DW.str ?_ | refine DW.arrE rfl ?_ | ((conv => whnf); first | refine And.intro ?_ ?_ | trivial))
    · repeat' (first | exact wsucc (lt_int h) (by omega) | exact DWl.eq ((rowC_set _ _ _).trans (congrArg rowC (by rw [Int.toNat_natCast, Nat.mul_one]; exact fill_set (lt_int h)))) (rowC_all _) | exact DW.same _ rfl | exact DW.ref _ _ _ rfl | exact DW.arr _ _ _ rfl | exact OW.cells rfl rfl (DWl.same rfl) | refine OW.cells rfl rfl ?_ | refine DWl.cons ?_ ?_ | exact DWl.nil | exact DW.nilArr _ rfl | exact DW.nilLst _ | refine DW.clol ?_ ?_ | refine DW.aggl ?_ | refine DW.tupl ?_ | refine DW.int ?_ | refine DW.bool ?_ | refine DW.str ?_ | refine DW.arrE rfl ?_ | ((conv => whnf); first | refine And.intro ?_ ?_ | trivial))
  · rename_i k hk e0
    have : k = n := by have := ge_int e0; omega
    subst this
    conv => whnf
    exact OwnR.of (by rw [fill_all, dist_out h])
  · rename_i k hk e0
    show f.toNat * 1 + 1 ≤ (rowC (fillL n k)).length
    have := dist_in h
    rw [rowC_len, fill_len hk]; omega
  · rename_i k hk e0
    refine DWl.eq ?_ (rowC_all _)
    show setMany (rowC (fillL n k)) (f.toNat * 1) [.v (.int .i64 0)] = _
    have : k = n := by have := ge_int e0; omega
    subst this
    rw [rowC_set, Nat.mul_one, fill_all, rounds_zero]
  · exact cnt_start (dist_in h)
  · rename_i k0 hk0 e0 e1 k
    have hk : k + 1 ≤ cntD (roundsD n l f k) := h
    have hkn : k + 1 ≤ n := Nat.le_trans hk cnt_le
    conv => whnf
    refine Tri.loop (linSt18 n l k) (linPre18 l k (roundsD n l f k)) (fun x => l.length - x.1) (0, roundsD n l f k, false) (by kernel_rfl) (Weak.list [(0, some 0)] [] (by kernel_rfl) ?_ ?_) ⟨Nat.zero_le _, rfl, fun _ => rfl, fun h => by cases h⟩ ?_
    · repeat' (first | exact DWl.eq rfl (rowC_all _) | exact DW.same _ rfl | exact DW.ref _ _ _ rfl | exact DW.arr _ _ _ rfl | exact OW.cells rfl rfl (DWl.same rfl) | refine OW.cells rfl rfl ?_ | refine DWl.cons ?_ ?_ | exact DWl.nil | exact DW.nilArr _ rfl | exact DW.nilLst _ | refine DW.clol ?_ ?_ | refine DW.aggl ?_ | refine DW.tupl ?_ | refine DW.int ?_ | refine DW.bool ?_ | refine DW.str ?_ | refine DW.arrE rfl ?_ | ((conv => whnf); first | refine And.intro ?_ ?_ | trivial))
    · repeat' (first | exact DWl.eq rfl (rowC_all _) | exact DW.same _ rfl | exact DW.ref _ _ _ rfl | exact DW.arr _ _ _ rfl | exact OW.cells rfl rfl (DWl.same rfl) | refine OW.cells rfl rfl ?_ | refine DWl.cons ?_ ?_ | exact DWl.nil | exact DW.nilArr _ rfl | exact DW.nilLst _ | refine DW.clol ?_ ?_ | refine DW.aggl ?_ | refine DW.tupl ?_ | refine DW.int ?_ | refine DW.bool ?_ | refine DW.str ?_ | refine DW.arrE rfl ?_ | ((conv => whnf); first | refine And.intro ?_ ?_ | trivial))
    intro ⟨i, D, m⟩ ⟨hi, hD, hm0, hm1⟩
    have hi : i ≤ l.length := hi
    have hD : D = (l.take i).foldl (stepD k) (roundsD n l f k) := hD
    have hm0 : m = false → D = roundsD n l f k := hm0
    have hm1 : m = true → cntD (roundsD n l f k) + 1 ≤ cntD D := hm1
    have hDl : D.length = n := by rw [hD, foldD_len, roundsD_len]
    have hA : i < l.length → (0 ≤ (l.getD ((i : Nat) : Int).toNat lk0).1 ∧ (l.getD ((i : Nat) : Int).toNat lk0).1 < n) ∧ (0 ≤ (l.getD ((i : Nat) : Int).toNat lk0).2 ∧ (l.getD ((i : Nat) : Int).toNat lk0).2 < n) := hl i
    have hw : IntKind.i64.wrap ((k : Int) + 1) = (k : Int) + 1 := wrapI (by omega) (by omega)
    rcases Nat.lt_or_ge i l.length with hlt | hge
    · have hA := hA hlt
      have hli : ((i : Nat) : Int) < ((l.map linkD).length : Nat) := by rw [List.length_map]; omega
      show dcode _ _ _ _ (linS18 n l k i D m) _
      repeat' (first | with_reducible rfl | ((conv => whnf); first | refine And.intro ?_ ?_ | (intro h; first | exact Bool.noConfusion h | with_reducible exact h | (with_reducible exact noc hDl hw hA.2 h) | (with_reducible exact absurd hlt (Nat.not_lt.2 (ge_of_test h))) | (refine notT h ?_; decide) | (refine notF h ?_; decide) | (have ht : true = true := h; clear ht h) | skip) | ((with_reducible refine DWl.mark ?_); repeat' (first | refine DWl.cons ?_ ?_ | exact DWl.nil | exact DW.same _ rfl | exact DW.ref _ _ _ rfl | exact DW.arr _ _ _ rfl | exact DW.sub _ _ _ _ rfl | exact DW.nilLst _ | refine DW.aggl ?_ | refine DW.tupl ?_ | refine DW.clol ?_ ?_ | refine DW.int ?_ | refine DW.bool ?_ | refine DW.str ?_)) | ((with_reducible refine Tri.mark ?_); first | refine Tri.rounds 3 (by kernel_rfl) ?_) | refine dloadE_map (lk0) ?_ ?_ | refine dcell_set ?_ ?_ | refine dcell_row ?_ ?_ | refine dcell_ok rfl ?_ | refine AppC.new ?_))
      all_goals try ((conv => whnf); with_reducible refine Round.mark ?_)
      all_goals try first | (show _ ≤ (rowC D).length; rw [rowC_len]; omega) | ((with_reducible show Option.isSome (slElem _ _) = true); kernel_rfl) | ((with_reducible show slElem _ _ = some _); kernel_rfl) | ((with_reducible refine enters_mark ?_); kernel_rfl) | (with_reducible assumption) | ((with_reducible show List.all _ DV.one = true); rfl) | ((with_reducible show (_ : Nat) = _); rfl) | ((with_reducible show (_ == true) = true); simpa using h) | ((with_reducible show (_ : Nat) ≤ _); exact Nat.le_of_ble_eq_true rfl) | ((with_reducible show (_ : Int) ≤ _); first | omega | decide) | ((with_reducible show (_ : Int) < _); first | omega | decide) | ((with_reducible show (_ : Nat) < _); omega) | ((with_reducible show (_ : Nat) ≤ _); omega)
      · rename_i c1 c2
        have hc : cntD (roundsD n l f k) ≤ cntD D := by cases m with | false => rw [hm0 rfl]; exact Nat.le_refl _ | true => have := hm1 rfl; omega
        have hx := cnt_tf (x := l.getD i lk0) (by show (l.getD ((i : Nat) : Int).toNat lk0).1.toNat < _; omega) (by show (l.getD ((i : Nat) : Int).toNat lk0).2.toNat < _; omega) c1
        refine Round.go (fun _ => (i + 1, stepD k D (l.getD i lk0), true)) ⟨hlt, by show stepD k D _ = _; rw [fold_take _ _ _ hlt, ← hD], fun h => (by cases h), fun _ => (by show _ ≤ cntD (stepD k D (l.getD i lk0)); omega)⟩ (by show l.length - (i + 1) < l.length - i; omega) (Weak.list [(0, some 0)] [] (by kernel_rfl) ?_ ?_)
        · repeat' (first | exact wsucc hlt ha | exact DWl.eq (step_tf hw c1 c2) (rowC_all _) | exact DW.same _ rfl | exact DW.ref _ _ _ rfl | exact DW.arr _ _ _ rfl | exact OW.cells rfl rfl (DWl.same rfl) | refine OW.cells rfl rfl ?_ | refine DWl.cons ?_ ?_ | exact DWl.nil | exact DW.nilArr _ rfl | exact DW.nilLst _ | refine DW.clol ?_ ?_ | refine DW.aggl ?_ | refine DW.tupl ?_ | refine DW.int ?_ | refine DW.bool ?_ | refine DW.str ?_ | refine DW.arrE rfl ?_ | ((conv => whnf); first | refine And.intro ?_ ?_ | trivial))
        · repeat' (first | exact wsucc hlt ha | exact DWl.eq (step_tf hw c1 c2) (rowC_all _) | exact DW.same _ rfl | exact DW.ref _ _ _ rfl | exact DW.arr _ _ _ rfl | exact OW.cells rfl rfl (DWl.same rfl) | refine OW.cells rfl rfl ?_ | refine DWl.cons ?_ ?_ | exact DWl.nil | exact DW.nilArr _ rfl | exact DW.nilLst _ | refine DW.clol ?_ ?_ | refine DW.aggl ?_ | refine DW.tupl ?_ | refine DW.int ?_ | refine DW.bool ?_ | refine DW.str ?_ | refine DW.arrE rfl ?_ | ((conv => whnf); first | refine And.intro ?_ ?_ | trivial))
      · rename_i c1 c2
        have hc : cntD (roundsD n l f k) ≤ cntD D := by cases m with | false => rw [hm0 rfl]; exact Nat.le_refl _ | true => have := hm1 rfl; omega
        have hx := cnt_ft (x := l.getD i lk0) (by show (l.getD ((i : Nat) : Int).toNat lk0).1.toNat < _; omega) c1 c2
        refine Round.go (fun _ => (i + 1, stepD k D (l.getD i lk0), true)) ⟨hlt, by show stepD k D _ = _; rw [fold_take _ _ _ hlt, ← hD], fun h => (by cases h), fun _ => (by show _ ≤ cntD (stepD k D (l.getD i lk0)); omega)⟩ (by show l.length - (i + 1) < l.length - i; omega) (Weak.list [(0, some 0)] [] (by kernel_rfl) ?_ ?_)
        · repeat' (first | exact wsucc hlt ha | exact DWl.eq (step_ft hw c1 c2) (rowC_all _) | exact DW.same _ rfl | exact DW.ref _ _ _ rfl | exact DW.arr _ _ _ rfl | exact OW.cells rfl rfl (DWl.same rfl) | refine OW.cells rfl rfl ?_ | refine DWl.cons ?_ ?_ | exact DWl.nil | exact DW.nilArr _ rfl | exact DW.nilLst _ | refine DW.clol ?_ ?_ | refine DW.aggl ?_ | refine DW.tupl ?_ | refine DW.int ?_ | refine DW.bool ?_ | refine DW.str ?_ | refine DW.arrE rfl ?_ | ((conv => whnf); first | refine And.intro ?_ ?_ | trivial))
        · repeat' (first | exact wsucc hlt ha | exact DWl.eq (step_ft hw c1 c2) (rowC_all _) | exact DW.same _ rfl | exact DW.ref _ _ _ rfl | exact DW.arr _ _ _ rfl | exact OW.cells rfl rfl (DWl.same rfl) | refine OW.cells rfl rfl ?_ | refine DWl.cons ?_ ?_ | exact DWl.nil | exact DW.nilArr _ rfl | exact DW.nilLst _ | refine DW.clol ?_ ?_ | refine DW.aggl ?_ | refine DW.tupl ?_ | refine DW.int ?_ | refine DW.bool ?_ | refine DW.str ?_ | refine DW.arrE rfl ?_ | ((conv => whnf); first | refine And.intro ?_ ?_ | trivial))
      · rename_i c1 c2
        have hx : stepD k D (l.getD i lk0) = D := step_same c1 c2
        refine Round.go (fun _ => (i + 1, D, m)) ⟨hlt, by show D = _; rw [fold_take _ _ _ hlt, ← hD, hx], hm0, hm1⟩ (by show l.length - (i + 1) < l.length - i; omega) (Weak.list [(0, some 0)] [] (by kernel_rfl) ?_ ?_)
        · repeat' (first | exact wsucc hlt ha | exact DWl.eq rfl (rowC_all _) | exact DW.same _ rfl | exact DW.ref _ _ _ rfl | exact DW.arr _ _ _ rfl | exact OW.cells rfl rfl (DWl.same rfl) | refine OW.cells rfl rfl ?_ | refine DWl.cons ?_ ?_ | exact DWl.nil | exact DW.nilArr _ rfl | exact DW.nilLst _ | refine DW.clol ?_ ?_ | refine DW.aggl ?_ | refine DW.tupl ?_ | refine DW.int ?_ | refine DW.bool ?_ | refine DW.str ?_ | refine DW.arrE rfl ?_ | ((conv => whnf); first | refine And.intro ?_ ?_ | trivial))
        · repeat' (first | exact wsucc hlt ha | exact DWl.eq rfl (rowC_all _) | exact DW.same _ rfl | exact DW.ref _ _ _ rfl | exact DW.arr _ _ _ rfl | exact OW.cells rfl rfl (DWl.same rfl) | refine OW.cells rfl rfl ?_ | refine DWl.cons ?_ ?_ | exact DWl.nil | exact DW.nilArr _ rfl | exact DW.nilLst _ | refine DW.clol ?_ ?_ | refine DW.aggl ?_ | refine DW.tupl ?_ | refine DW.int ?_ | refine DW.bool ?_ | refine DW.str ?_ | refine DW.arrE rfl ?_ | ((conv => whnf); first | refine And.intro ?_ ?_ | trivial))
    · have hDk : D = roundsD n l f (k + 1) := by rw [hD, List.take_of_length_le hge, rounds_succ]; rfl
      show dcode _ _ _ _ (linS18 n l k i D m) _
      repeat' (first | with_reducible rfl | ((conv => whnf); first | refine And.intro ?_ ?_ | (intro h; first | exact Bool.noConfusion h | with_reducible exact h | (with_reducible exact absurd (lt_of_test h) (Nat.not_lt.2 hge)) | (have ht : true = true := h; clear ht h) | skip) | ((with_reducible refine DWl.mark ?_); repeat' (first | refine DWl.cons ?_ ?_ | exact DWl.nil | exact DW.same _ rfl | exact DW.ref _ _ _ rfl | exact DW.arr _ _ _ rfl | exact DW.sub _ _ _ _ rfl | exact DW.nilLst _ | refine DW.aggl ?_ | refine DW.tupl ?_ | refine DW.clol ?_ ?_ | refine DW.int ?_ | refine DW.bool ?_ | refine DW.str ?_)) | refine dcell_ok rfl ?_ | refine AppC.new ?_))
      all_goals try ((conv => whnf); with_reducible first | refine Round.mark ?_ | refine OwnR.mark ?_)
      all_goals try first | ((with_reducible show Option.isSome (slElem _ _) = true); kernel_rfl) | ((with_reducible show slElem _ _ = some _); kernel_rfl) | ((with_reducible refine enters_mark ?_); kernel_rfl) | (with_reducible assumption) | ((with_reducible show List.all _ DV.one = true); rfl) | ((with_reducible show (_ : Nat) = _); rfl) | ((with_reducible show (_ == true) = true); simpa using h) | ((with_reducible show (_ : Nat) ≤ _); exact Nat.le_of_ble_eq_true rfl) | ((with_reducible show (_ : Int) ≤ _); first | omega | decide) | ((with_reducible show (_ : Int) < _); first | omega | decide) | ((with_reducible show (_ : Nat) < _); omega) | ((with_reducible show (_ : Nat) ≤ _); omega)
      · have hm : m = false := by simpa using h
        have e : D = roundsD n l f k := hm0 hm
        have e2 : distT n l f = D := by
          rw [distT_in (dist_in e1), e]
          have := rounds_stay hl (by rw [← rounds_succ, ← hDk, e]) (n - k)
          rw [← this]
          congr 1
          omega
        exact OwnR.of e2.symm
      · have hm : m = true := by simpa using h
        have hx : cntD (roundsD n l f k) + 1 ≤ cntD D := hm1 hm
        refine Round.go (· + 1) (by show k + 1 + 1 ≤ cntD (roundsD n l f (k + 1)); rw [← hDk]; omega) (by show n - (k + 1) < n - k; omega) (Weak.list [(0, some 0)] [] (by kernel_rfl) ?_ ?_)
        · repeat' (first | exact wsucc hkn (by omega) | exact DWl.eq (congrArg rowC hDk) (rowC_all _) | exact DW.same _ rfl | exact DW.ref _ _ _ rfl | exact DW.arr _ _ _ rfl | exact OW.cells rfl rfl (DWl.same rfl) | refine OW.cells rfl rfl ?_ | refine DWl.cons ?_ ?_ | exact DWl.nil | exact DW.nilArr _ rfl | exact DW.nilLst _ | refine DW.clol ?_ ?_ | refine DW.aggl ?_ | refine DW.tupl ?_ | refine DW.int ?_ | refine DW.bool ?_ | refine DW.str ?_ | refine DW.arrE rfl ?_ | ((conv => whnf); first | refine And.intro ?_ ?_ | trivial))
        · repeat' (first | exact wsucc hkn (by omega) | exact DWl.eq (congrArg rowC hDk) (rowC_all _) | exact DW.same _ rfl | exact DW.ref _ _ _ rfl | exact DW.arr _ _ _ rfl | exact OW.cells rfl rfl (DWl.same rfl) | refine OW.cells rfl rfl ?_ | refine DWl.cons ?_ ?_ | exact DWl.nil | exact DW.nilArr _ rfl | exact DW.nilLst _ | refine DW.clol ?_ ?_ | refine DW.aggl ?_ | refine DW.tupl ?_ | refine DW.int ?_ | refine DW.bool ?_ | refine DW.str ?_ | refine DW.arrE rfl ?_ | ((conv => whnf); first | refine And.intro ?_ ?_ | trivial))
theorem dist18_D (n : Nat) (l : List Lk) (f : Int) (hn : n ≤ 1000) (hl : inN n l) : DPure Try.prog 18 [int1 n, links l, int1 f] (ints (distT n l f)) := OwnR.data (distT_len n l f) (dist18_O n l f hn hl)
end Go.Proofs.Ytphgcgggbbcjgaa
