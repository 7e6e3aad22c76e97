/- How far each node is from one: the document's answer. -/
import Derived.Test.YtphgcgggbbcjgaaB
import Derived.Test.YtphgcgggbbcjgaaDl24
namespace Go.Proofs.Ytphgcgggbbcjgaa
open Go.RowKit Go.Dl
attribute [local irreducible] Tri SCall DFun QSem PCall GCall MCall Round Weak dloadE OW DWl Tells IntKind.wrap Retold ESem

theorem intsRow (l : List Int) : ∀ r ∈ l.map intD, r.length = 1 ∧ r.all isData1 = true := by
  intro r hr
  obtain ⟨x, _, rfl⟩ := List.mem_map.1 hr
  exact ⟨rfl, rfl⟩
def rowC (l : List Int) : List DV := (l.map intD).flatten
theorem rowC_eq (l : List Int) : rowC l = (l.map intD).flatten := rfl
theorem rowC_map (l : List Int) : rowC l = l.map fun x => .v (.int .i64 x) := by
  induction l with
  | nil => rfl
  | cons a l ih => simp only [rowC, List.map_cons, List.flatten_cons] at *; rw [ih]; rfl
theorem rowC_len (l : List Int) : (rowC l).length = l.length := by rw [rowC_map, List.length_map]
theorem rowC_all (l : List Int) : (rowC l).all noId1 = true := by
  rw [rowC_map, List.all_map, List.all_eq_true]; intro x _; rfl
theorem rowC_one (l : List Int) : (rowC l).all DV.one = true := by
  rw [rowC_map, List.all_map, List.all_eq_true]; intro x _; rfl
theorem rowC_set (l : List Int) (i : Nat) (x : Int) : setMany (rowC l) i [.v (.int .i64 x)] = rowC (l.set i x) := by
  show (rowC l).set i _ = _
  rw [rowC_map, rowC_map, List.map_set]
theorem dcell_row {g : Bool} {l : List Int} {off : Nat} {K : DV → Prop} (h : g = true → off < l.length) (hK : K (.v (.int .i64 (l.getD off 0)))) : dcell g (rowC l) off K :=
  dcell_at _ (fun hg => by
    have hl := h hg
    rw [rowC_map, List.getElem?_map, List.getElem?_eq_getElem hl, List.getD_eq_getElem?_getD, List.getElem?_eq_getElem hl]; rfl) hK
theorem dcell_set {g : Bool} {l : List Int} {off i : Nat} {x : Int} {K : DV → Prop} (h : g = true → off < l.length) (hK : K (.v (.int .i64 ((l.set i x).getD off 0)))) : dcell g (setMany (rowC l) i [.v (.int .i64 x)]) off K := by
  rw [rowC_set]; exact dcell_row (fun hg => by rw [List.length_set]; exact h hg) hK

/-- A new row of numbers. -/
def OwnR (n : Nat) (D : List Int) (r : DV) (s : Sto) : Prop := r = .arr 0 n ∧ s = .of [(0, ⟨3, 1, rowC D⟩)] 1
theorem OwnR.of {n : Nat} {D D' : List Int} (h : D' = D) : OwnR n D (.arr 0 n) (.of [(0, ⟨3, 1, rowC D'⟩)] 1) := by subst h; exact ⟨rfl, rfl⟩
theorem OwnR.data {P : Program} {f : FuncId} {args : List DV} {n : Nat} {D : List Int} (hn : D.length = n) (h : DFun P f args (OwnR n D)) : DPure P f args (ints D) :=
  DFun.data (h.mono fun r s ⟨h1, h2⟩ => by
    subst h1 h2
    exact Tells.mk (DW.pubM rfl hn rfl rfl (intsRow _) (rowC_eq _)))
theorem rowC_scal (l : List Int) : (rowC l).all scalV = true := by
  rw [rowC_map, List.all_map, List.all_eq_true]; intro x _; rfl
def relaxT (r : Int) (d : List Int) (a b : Nat) : Bool := bif d.getD a 0 == r then decide (d.getD b 0 < 0) else false
def relax (r : Int) (d : List Int) (a b : Nat) : List Int := if relaxT r d a b = true then d.set b (r + 1) else d
def stepD (r : Int) (d : List Int) (x : Lk) : List Int := relax r (relax r d x.1.toNat x.2.toNat) x.2.toNat x.1.toNat
def roundD (l : List Lk) (d : List Int) (r : Nat) : List Int := l.foldl (stepD r) d
def startD (n : Nat) (f : Int) : List Int := (List.replicate n (-1)).set f.toNat 0
def roundsD (n : Nat) (l : List Lk) (f : Int) (k : Nat) : List Int := (List.range k).foldl (roundD l) (startD n f)
def distT (n : Nat) (l : List Lk) (f : Int) : List Int := if 0 ≤ f ∧ f < n then roundsD n l f n else List.replicate n (-1)
theorem relax_len (r : Int) (d : List Int) (a b : Nat) : (relax r d a b).length = d.length := by unfold relax; split <;> simp
theorem stepD_len (r : Int) (d : List Int) (x : Lk) : (stepD r d x).length = d.length := by rw [stepD, relax_len, relax_len]
theorem foldD_len (r : Int) (l : List Lk) : ∀ d : List Int, (l.foldl (stepD r) d).length = d.length := by
  induction l with
  | nil => intro d; rfl
  | cons x l ih => intro d; rw [List.foldl_cons, ih, stepD_len]
theorem roundsD_len (n : Nat) (l : List Lk) (f : Int) (k : Nat) : (roundsD n l f k).length = n := by
  induction k with
  | zero => simp [roundsD, startD]
  | succ k ih => rw [roundsD, List.range_succ, List.foldl_append]; show (roundD l (roundsD n l f k) k).length = n; rw [roundD, foldD_len, ih]
theorem distT_len (n : Nat) (l : List Lk) (f : Int) : (distT n l f).length = n := by
  unfold distT; split
  · exact roundsD_len n l f n
  · simp
def inN (n : Nat) (l : List Lk) : Prop := ∀ i, i < l.length → (0 ≤ (l.getD i lk0).1 ∧ (l.getD i lk0).1 < n) ∧ (0 ≤ (l.getD i lk0).2 ∧ (l.getD i lk0).2 < n)

def fillL (n k : Nat) : List Int := List.replicate k (-1) ++ List.replicate (n - k) 0
def fillSt25 (n : Nat) (l : List Lk) (f : Int) (k : Nat) : St := ⟨0, tmOf [(0, int1 n), (1, links l), (2, int1 f), (7, .arr 0 n), (8, int1 k)], .of [(0, ⟨3, 1, rowC (fillL n k)⟩)] 1⟩
def rndSt25 (n : Nat) (l : List Lk) (f : Int) (k : Nat) : St := ⟨0, tmOf [(0, int1 n), (1, links l), (7, .arr 0 n), (9, int1 k)], .of [(0, ⟨3, 1, rowC (roundsD n l f k)⟩)] 1⟩
def linS25 (n : Nat) (l : List Lk) (r i : Nat) (D : List Int) : St := ⟨0, tmOf [(0, int1 n), (1, links l), (7, .arr 0 n), (9, int1 r), (10, int1 i)], .of [(0, ⟨3, 1, rowC D⟩)] 1⟩
def linSt25 (n : Nat) (l : List Lk) (r : Nat) (x : Nat × List Int) : St := linS25 n l r x.1 x.2
def linPre (l : List Lk) (r : Nat) (D0 : List Int) (x : Nat × List Int) : Prop := x.1 ≤ l.length ∧ x.2 = (l.take x.1).foldl (stepD r) D0
theorem _root_.Go.Dl.DWl.eq {ρ : Nat → Option Nat} {s : Sto} {pub : Nat → Prop} {X Y : List DV} (h : X = Y) (hall : Y.all noId1 = true) : DWl ρ s pub X Y := by rw [h]; exact DWl.same hall
theorem fill_len {n k : Nat} (h : k ≤ n) : (fillL n k).length = n := by simp [fillL]; omega
theorem fill0 (n : Nat) : (List.replicate ((n : Int).toNat) [DV.v (.int .i64 0)]).flatten = rowC (fillL n 0) := by
  rw [Int.toNat_natCast]
  simp [rowC, fillL, intD]
theorem fill_set {n k : Nat} (h : k < n) : (fillL n k).set k (-1) = fillL n (k + 1) := by
  unfold fillL
  rw [List.set_append_right _ _ (by simp), List.length_replicate, Nat.sub_self, List.replicate_succ', List.append_assoc, show n - k = (n - (k + 1)) + 1 by omega, List.replicate_succ]
  rfl
theorem fill_all (n : Nat) : fillL n n = List.replicate n (-1) := by simp [fillL]
theorem dist_out {n : Nat} {l : List Lk} {f : Int} (h : (bif decide (f < 0) then true else decide ((n : Int) ≤ f)) = true) : distT n l f = List.replicate n (-1) := by
  unfold distT
  rw [if_neg]
  rw [Bool.cond_eq_ite] at h
  split at h <;> simp at * <;> omega
theorem dist_in {n : Nat} {f : Int} (h : (bif decide (f < 0) then true else decide ((n : Int) ≤ f)) = false) : 0 ≤ f ∧ f < n := by
  rw [Bool.cond_eq_ite] at h
  split at h <;> simp at * <;> omega
theorem lt_int {k n : Nat} (h : decide ((k : Int) < (n : Int)) = true) : k < n := by simpa using h
theorem ge_int {k n : Nat} (h : decide ((k : Int) < (n : Int)) = false) : n ≤ k := by simpa using h
theorem fold_take (r : Int) (l : List Lk) (d : List Int) {k : Nat} (hk : k < l.length) : (l.take (k + 1)).foldl (stepD r) d = stepD r ((l.take k).foldl (stepD r) d) (l.getD k lk0) := by
  rw [take_succ (d := lk0) hk, List.foldl_append]; rfl
theorem distT_in {n : Nat} {l : List Lk} {f : Int} (h : 0 ≤ f ∧ f < n) : distT n l f = roundsD n l f n := by unfold distT; rw [if_pos h]
theorem rounds_zero (n : Nat) (l : List Lk) (f : Int) : (List.replicate n (-1)).set f.toNat 0 = roundsD n l f 0 := rfl
theorem rounds_succ (n : Nat) (l : List Lk) (f : Int) (k : Nat) : roundsD n l f (k + 1) = roundD l (roundsD n l f k) k := by
  rw [roundsD, List.range_succ, List.foldl_append]; rfl
theorem noc {n k : Nat} {D : List Int} {b : Int} {c : Bool} {w : Int} {Q : Prop} (hD : D.length = n) (hw : w = (k : Int) + 1) (hb : 0 ≤ b ∧ b < n) (h : (bif (D.set (b.toNat * 1) w).getD (b.toNat * 1) 0 == (k : Int) then c else false) = true) : Q := by
  exfalso
  rw [List.getD_eq_getElem?_getD, List.getElem?_set_self (by omega), Option.getD_some, hw] at h
  have : ((k : Int) + 1 == (k : Int)) = false := by simp; omega
  rw [this] at h
  cases h
theorem mul1 (n : Nat) : n * 1 = n := Nat.mul_one n
theorem step_ff {D : List Int} {x : Lk} {k : Nat} (h1 : (bif D.getD (x.1.toNat * 1) 0 == (k : Int) then decide (D.getD (x.2.toNat * 1) 0 < 0) else false) = false)
    (h2 : (bif D.getD (x.2.toNat * 1) 0 == (k : Int) then decide (D.getD (x.1.toNat * 1) 0 < 0) else false) = false) : rowC D = rowC (stepD k D x) := by
  rw [mul1, mul1] at h1 h2
  have e : relax k D x.1.toNat x.2.toNat = D := by unfold relax; rw [if_neg (by unfold relaxT; rw [h1]; exact Bool.false_ne_true)]
  unfold stepD
  rw [e]
  unfold relax
  rw [if_neg (by unfold relaxT; rw [h2]; exact Bool.false_ne_true)]
theorem step_ft {D : List Int} {x : Lk} {k : Nat} {w : Int} (hw : w = (k : Int) + 1) (h1 : (bif D.getD (x.1.toNat * 1) 0 == (k : Int) then decide (D.getD (x.2.toNat * 1) 0 < 0) else false) = false)
    (h2 : (bif D.getD (x.2.toNat * 1) 0 == (k : Int) then decide (D.getD (x.1.toNat * 1) 0 < 0) else false) = true) : setMany (rowC D) (x.1.toNat * 1) [.v (.int .i64 w)] = rowC (stepD k D x) := by
  rw [mul1] at *
  rw [mul1] at h1 h2
  have e : relax k D x.1.toNat x.2.toNat = D := by unfold relax; rw [if_neg (by unfold relaxT; rw [h1]; exact Bool.false_ne_true)]
  unfold stepD
  rw [e, rowC_set, hw]
  unfold relax
  rw [if_pos (by unfold relaxT; exact h2)]
theorem step_tf {D : List Int} {x : Lk} {k : Nat} {w : Int} (hw : w = (k : Int) + 1) (h1 : (bif D.getD (x.1.toNat * 1) 0 == (k : Int) then decide (D.getD (x.2.toNat * 1) 0 < 0) else false) = true)
    (h2 : (bif (D.set (x.2.toNat * 1) w).getD (x.2.toNat * 1) 0 == (k : Int) then decide ((D.set (x.2.toNat * 1) w).getD (x.1.toNat * 1) 0 < 0) else false) = false) : setMany (rowC D) (x.2.toNat * 1) [.v (.int .i64 w)] = rowC (stepD k D x) := by
  rw [mul1, mul1] at h1 h2
  rw [mul1]
  subst hw
  have e : relax k D x.1.toNat x.2.toNat = D.set x.2.toNat ((k : Int) + 1) := by unfold relax; rw [if_pos (by unfold relaxT; exact h1)]
  unfold stepD
  rw [e, rowC_set]
  unfold relax
  rw [if_neg (by unfold relaxT; rw [h2]; exact Bool.false_ne_true)]
attribute [local irreducible] rowC stepD roundsD relax fillL distT
set_option maxRecDepth 20000 in
theorem dist25_D (n : Nat) (l : List Lk) (f : Int) (hn : n ≤ 1000) (hl : inN n l) : DPure Try.prog 25 [int1 n, links l, int1 f] (ints (distT n l f)) := by
  refine DFun.bound 1 rfl fun ha => ?_
  have ha : l.length ≤ 9223372036854775807 := by simpa [maxLen] using ha
  refine DFun.data (DFun.body Try.func25 rfl (by kernel_rfl) ?_)
  repeat' (first | with_reducible rfl | ((conv => whnf); first | refine And.intro ?_ ?_ | (intro h; first | exact Bool.noConfusion h | with_reducible exact h | (have ht : true = true := h; clear ht h) | skip) | ((with_reducible refine DWl.mark ?_); repeat' (first | refine DWl.cons ?_ ?_ | exact DWl.nil | exact DW.same _ rfl | exact DW.ref _ _ _ rfl | exact DW.arr _ _ _ rfl | exact DW.sub _ _ _ _ rfl | exact DW.nilLst _ | refine DW.aggl ?_ | refine DW.tupl ?_ | refine DW.clol ?_ ?_ | refine DW.int ?_ | refine DW.bool ?_ | refine DW.str ?_)) | ((with_reducible refine Tri.mark ?_); first | (refine Tri.at (8) (int1 0) (by rfl) ?_; refine Tri.loop (fillSt25 n l f) ((· ≤ n)) (fun k => n - k) (0) (by kernel_rfl) (Weak.list [(0, some 0)] [] ?_ ?_ ?_) ?_ ?_) | (refine Tri.at (9) (int1 0) (by rfl) ?_; refine Tri.loop (rndSt25 n l f) ((· ≤ n)) (fun k => n - k) (0) (by kernel_rfl) (Weak.list [(0, some 0)] [] ?_ ?_ ?_) ?_ ?_)) | ((with_reducible refine Round.mark ?_); first | refine Round.go ((· + 1)) ?_ ?_ (Weak.list [(0, some 0)] [] ?_ ?_ ?_)) | refine dloadE_map (lk0) ?_ ?_ | refine dcell_set ?_ ?_ | refine dcell_row ?_ ?_ | refine dcell_ok rfl ?_ | refine AppC.new ?_))
  all_goals first | (with_reducible refine enters_mark ?_; kernel_rfl) | (with_reducible refine boolT_mark ?_; kernel_rfl) | rfl | trivial | assumption | exact Nat.le_of_ble_eq_true rfl | (show entersB _ _ = true; kernel_rfl) | exact DW.same _ rfl | exact DW.ref _ _ _ rfl | exact DW.arr _ _ _ rfl | refine DW.int ?_ | refine dvb ?_ | refine dvi ?_ | exact OW.cells rfl rfl (DWl.same rfl) | exact Nat.zero_le _ | omega | skip
  all_goals repeat' (first | refine OW.cells rfl rfl ?_ | exact DW.nilArr _ rfl | refine DWl.cons ?_ ?_ | exact DWl.nil | exact DW.same _ rfl | exact DW.ref _ _ _ rfl | exact DW.arr _ _ _ rfl | exact DW.sub _ _ _ _ rfl | exact DW.nilLst _ | refine DW.aggl ?_ | refine DW.tupl ?_ | refine DW.clol ?_ ?_)
  all_goals try ((conv => whnf); with_reducible first | refine Round.mark ?_ | refine Tells.mark ?_ | refine Retold.mark ?_)
  all_goals try first | (show (_ : Bool) = _; simp_all; done) | (show (_ : Int) < _; simp at *; omega) | (show (_ : Int) ≤ _; simp at *; omega) | (show (_ : Nat) < _; simp at *; omega) | (show (_ : Nat) ≤ _; simp at *; omega)
  · show (n : Int) * 8 ≤ _
    omega
  · exact DWl.eq (fill0 n) (rowC_all _)
  · rename_i k hk
    show (k : Int).toNat * 1 + 1 ≤ (rowC (fillL n k)).length
    have := lt_int h
    rw [rowC_len, fill_len hk]; omega
  · exact wsucc (lt_int h) (by omega)
  · rename_i k hk
    refine DWl.eq ?_ (rowC_all _)
    show setMany (rowC (fillL n k)) ((k : Int).toNat * 1) [.v (.int .i64 (-1))] = _
    rw [rowC_set, Int.toNat_natCast, Nat.mul_one, fill_set (lt_int h)]
  · rename_i k hk e0
    have : k = n := by have := ge_int e0; omega
    subst this
    exact Tells.of (r1 := ints (fillL k k)) (by rw [fill_all, dist_out h]) (Tells.mk (DW.pubM rfl (fill_len (Nat.le_refl _)) rfl rfl (intsRow _) (rowC_eq _)))
  · rename_i k hk e0
    show f.toNat * 1 + 1 ≤ (rowC (fillL n k)).length
    have := dist_in h
    rw [rowC_len, fill_len hk]; omega
  · rename_i k hk e0
    refine DWl.eq ?_ (rowC_all _)
    show setMany (rowC (fillL n k)) (f.toNat * 1) [.v (.int .i64 0)] = _
    have : k = n := by have := ge_int e0; omega
    subst this
    rw [rowC_set, Nat.mul_one, fill_all, rounds_zero]
  · rename_i k0 hk0 e0 e1 k hk
    have hkn := lt_int h
    conv => whnf
    refine Tri.loop (linSt25 n l k) (linPre l k (roundsD n l f k)) (fun x => l.length - x.1) (0, roundsD n l f k) (by kernel_rfl) (Weak.list [(0, some 0)] [] (by kernel_rfl) ?_ ?_) ⟨Nat.zero_le _, rfl⟩ ?_
    · repeat' (first | exact DWl.eq rfl (rowC_all _) | exact DW.same _ rfl | exact DW.ref _ _ _ rfl | exact DW.arr _ _ _ rfl | exact OW.cells rfl rfl (DWl.same rfl) | refine OW.cells rfl rfl ?_ | refine DWl.cons ?_ ?_ | exact DWl.nil | exact DW.nilArr _ rfl | exact DW.nilLst _ | refine DW.clol ?_ ?_ | refine DW.aggl ?_ | refine DW.tupl ?_ | refine DW.int ?_ | refine DW.bool ?_ | refine DW.str ?_ | refine DW.arrE rfl ?_ | ((conv => whnf); first | refine And.intro ?_ ?_ | trivial))
    · repeat' (first | exact DWl.eq rfl (rowC_all _) | exact DW.same _ rfl | exact DW.ref _ _ _ rfl | exact DW.arr _ _ _ rfl | exact OW.cells rfl rfl (DWl.same rfl) | refine OW.cells rfl rfl ?_ | refine DWl.cons ?_ ?_ | exact DWl.nil | exact DW.nilArr _ rfl | exact DW.nilLst _ | refine DW.clol ?_ ?_ | refine DW.aggl ?_ | refine DW.tupl ?_ | refine DW.int ?_ | refine DW.bool ?_ | refine DW.str ?_ | refine DW.arrE rfl ?_ | ((conv => whnf); first | refine And.intro ?_ ?_ | trivial))
    intro ⟨i, D⟩ ⟨hi, hD⟩
    have hi : i ≤ l.length := hi
    have hD : D = (l.take i).foldl (stepD k) (roundsD n l f k) := hD
    have hDl : D.length = n := by rw [hD, foldD_len, roundsD_len]
    have hA : i < l.length → (0 ≤ (l.getD ((i : Nat) : Int).toNat lk0).1 ∧ (l.getD ((i : Nat) : Int).toNat lk0).1 < n) ∧ (0 ≤ (l.getD ((i : Nat) : Int).toNat lk0).2 ∧ (l.getD ((i : Nat) : Int).toNat lk0).2 < n) := hl i
    have hw : IntKind.i64.wrap ((k : Int) + 1) = (k : Int) + 1 := wrapI (by omega) (by omega)
    rcases Nat.lt_or_ge i l.length with hlt | hge
    · have hA := hA hlt
      have hli : ((i : Nat) : Int) < ((l.map linkD).length : Nat) := by rw [List.length_map]; omega
      show dcode _ _ _ _ (linS25 n l k i D) _
      repeat' (first | with_reducible rfl | ((conv => whnf); first | refine And.intro ?_ ?_ | (intro h; first | exact Bool.noConfusion h | with_reducible exact h | (with_reducible exact noc hDl hw hA.2 h) | (with_reducible exact absurd hlt (Nat.not_lt.2 (ge_of_test h))) | (have ht : true = true := h; clear ht h) | skip) | ((with_reducible refine DWl.mark ?_); repeat' (first | refine DWl.cons ?_ ?_ | exact DWl.nil | exact DW.same _ rfl | exact DW.ref _ _ _ rfl | exact DW.arr _ _ _ rfl | exact DW.sub _ _ _ _ rfl | exact DW.nilLst _ | refine DW.aggl ?_ | refine DW.tupl ?_ | refine DW.clol ?_ ?_ | refine DW.int ?_ | refine DW.bool ?_ | refine DW.str ?_)) | refine dloadE_map (lk0) ?_ ?_ | refine dcell_set ?_ ?_ | refine dcell_row ?_ ?_ | refine dcell_ok rfl ?_ | refine AppC.new ?_))
      all_goals try ((conv => whnf); with_reducible refine Round.mark ?_)
      all_goals try first | (show _ ≤ (rowC D).length; rw [rowC_len]; omega) | ((with_reducible show Option.isSome (slElem _ _) = true); kernel_rfl) | ((with_reducible show slElem _ _ = some _); kernel_rfl) | ((with_reducible refine enters_mark ?_); kernel_rfl) | (with_reducible assumption) | ((with_reducible show List.all _ DV.one = true); rfl) | ((with_reducible show (_ : Nat) = _); rfl) | ((with_reducible show (_ == true) = true); simpa using h) | ((with_reducible show (_ : Nat) ≤ _); exact Nat.le_of_ble_eq_true rfl) | ((with_reducible show (_ : Int) ≤ _); first | omega | decide) | ((with_reducible show (_ : Int) < _); first | omega | decide) | ((with_reducible show (_ : Nat) < _); omega) | ((with_reducible show (_ : Nat) ≤ _); omega)
      · rename_i e2 e3
        refine Round.go (fun _ => (i + 1, stepD k D (l.getD i lk0))) ⟨hlt, by show stepD k D _ = _; rw [fold_take _ _ _ hlt, ← hD]⟩ (by show l.length - (i + 1) < l.length - i; omega) (Weak.list [(0, some 0)] [] (by kernel_rfl) ?_ ?_)
        · repeat' (first | exact wsucc hlt ha | exact DWl.eq (step_tf hw e3 h) (rowC_all _) | exact DW.same _ rfl | exact DW.ref _ _ _ rfl | exact DW.arr _ _ _ rfl | exact OW.cells rfl rfl (DWl.same rfl) | refine OW.cells rfl rfl ?_ | refine DWl.cons ?_ ?_ | exact DWl.nil | exact DW.nilArr _ rfl | exact DW.nilLst _ | refine DW.clol ?_ ?_ | refine DW.aggl ?_ | refine DW.tupl ?_ | refine DW.int ?_ | refine DW.bool ?_ | refine DW.str ?_ | refine DW.arrE rfl ?_ | ((conv => whnf); first | refine And.intro ?_ ?_ | trivial))
        · repeat' (first | exact wsucc hlt ha | exact DWl.eq (step_tf hw e3 h) (rowC_all _) | exact DW.same _ rfl | exact DW.ref _ _ _ rfl | exact DW.arr _ _ _ rfl | exact OW.cells rfl rfl (DWl.same rfl) | refine OW.cells rfl rfl ?_ | refine DWl.cons ?_ ?_ | exact DWl.nil | exact DW.nilArr _ rfl | exact DW.nilLst _ | refine DW.clol ?_ ?_ | refine DW.aggl ?_ | refine DW.tupl ?_ | refine DW.int ?_ | refine DW.bool ?_ | refine DW.str ?_ | refine DW.arrE rfl ?_ | ((conv => whnf); first | refine And.intro ?_ ?_ | trivial))
      · rename_i e2 e3
        refine Round.go (fun _ => (i + 1, stepD k D (l.getD i lk0))) ⟨hlt, by show stepD k D _ = _; rw [fold_take _ _ _ hlt, ← hD]⟩ (by show l.length - (i + 1) < l.length - i; omega) (Weak.list [(0, some 0)] [] (by kernel_rfl) ?_ ?_)
        · repeat' (first | exact wsucc hlt ha | exact DWl.eq (step_ft hw e3 h) (rowC_all _) | exact DW.same _ rfl | exact DW.ref _ _ _ rfl | exact DW.arr _ _ _ rfl | exact OW.cells rfl rfl (DWl.same rfl) | refine OW.cells rfl rfl ?_ | refine DWl.cons ?_ ?_ | exact DWl.nil | exact DW.nilArr _ rfl | exact DW.nilLst _ | refine DW.clol ?_ ?_ | refine DW.aggl ?_ | refine DW.tupl ?_ | refine DW.int ?_ | refine DW.bool ?_ | refine DW.str ?_ | refine DW.arrE rfl ?_ | ((conv => whnf); first | refine And.intro ?_ ?_ | trivial))
        · repeat' (first | exact wsucc hlt ha | exact DWl.eq (step_ft hw e3 h) (rowC_all _) | exact DW.same _ rfl | exact DW.ref _ _ _ rfl | exact DW.arr _ _ _ rfl | exact OW.cells rfl rfl (DWl.same rfl) | refine OW.cells rfl rfl ?_ | refine DWl.cons ?_ ?_ | exact DWl.nil | exact DW.nilArr _ rfl | exact DW.nilLst _ | refine DW.clol ?_ ?_ | refine DW.aggl ?_ | refine DW.tupl ?_ | refine DW.int ?_ | refine DW.bool ?_ | refine DW.str ?_ | refine DW.arrE rfl ?_ | ((conv => whnf); first | refine And.intro ?_ ?_ | trivial))
      · rename_i e2 e3
        refine Round.go (fun _ => (i + 1, stepD k D (l.getD i lk0))) ⟨hlt, by show stepD k D _ = _; rw [fold_take _ _ _ hlt, ← hD]⟩ (by show l.length - (i + 1) < l.length - i; omega) (Weak.list [(0, some 0)] [] (by kernel_rfl) ?_ ?_)
        · repeat' (first | exact wsucc hlt ha | exact DWl.eq (step_ff e3 h) (rowC_all _) | exact DW.same _ rfl | exact DW.ref _ _ _ rfl | exact DW.arr _ _ _ rfl | exact OW.cells rfl rfl (DWl.same rfl) | refine OW.cells rfl rfl ?_ | refine DWl.cons ?_ ?_ | exact DWl.nil | exact DW.nilArr _ rfl | exact DW.nilLst _ | refine DW.clol ?_ ?_ | refine DW.aggl ?_ | refine DW.tupl ?_ | refine DW.int ?_ | refine DW.bool ?_ | refine DW.str ?_ | refine DW.arrE rfl ?_ | ((conv => whnf); first | refine And.intro ?_ ?_ | trivial))
        · repeat' (first | exact wsucc hlt ha | exact DWl.eq (step_ff e3 h) (rowC_all _) | exact DW.same _ rfl | exact DW.ref _ _ _ rfl | exact DW.arr _ _ _ rfl | exact OW.cells rfl rfl (DWl.same rfl) | refine OW.cells rfl rfl ?_ | refine DWl.cons ?_ ?_ | exact DWl.nil | exact DW.nilArr _ rfl | exact DW.nilLst _ | refine DW.clol ?_ ?_ | refine DW.aggl ?_ | refine DW.tupl ?_ | refine DW.int ?_ | refine DW.bool ?_ | refine DW.str ?_ | refine DW.arrE rfl ?_ | ((conv => whnf); first | refine And.intro ?_ ?_ | trivial))
    · show dcode _ _ _ _ (linS25 n l k i D) _
      repeat' (first | with_reducible rfl | ((conv => whnf); first | refine And.intro ?_ ?_ | (intro h; first | exact Bool.noConfusion h | with_reducible exact h | (with_reducible exact absurd (lt_of_test h) (Nat.not_lt.2 hge)) | (have ht : true = true := h; clear ht h) | skip) | ((with_reducible refine DWl.mark ?_); repeat' (first | refine DWl.cons ?_ ?_ | exact DWl.nil | exact DW.same _ rfl | exact DW.ref _ _ _ rfl | exact DW.arr _ _ _ rfl | exact DW.sub _ _ _ _ rfl | exact DW.nilLst _ | refine DW.aggl ?_ | refine DW.tupl ?_ | refine DW.clol ?_ ?_ | refine DW.int ?_ | refine DW.bool ?_ | refine DW.str ?_)) | refine dcell_ok rfl ?_ | refine AppC.new ?_))
      all_goals try ((conv => whnf); with_reducible refine Round.mark ?_)
      all_goals try first | ((with_reducible show Option.isSome (slElem _ _) = true); kernel_rfl) | ((with_reducible show slElem _ _ = some _); kernel_rfl) | ((with_reducible refine enters_mark ?_); kernel_rfl) | (with_reducible assumption) | ((with_reducible show List.all _ DV.one = true); rfl) | ((with_reducible show (_ : Nat) = _); rfl) | ((with_reducible show (_ == true) = true); simpa using h) | ((with_reducible show (_ : Nat) ≤ _); exact Nat.le_of_ble_eq_true rfl) | ((with_reducible show (_ : Int) ≤ _); first | omega | decide) | ((with_reducible show (_ : Int) < _); first | omega | decide) | ((with_reducible show (_ : Nat) < _); omega) | ((with_reducible show (_ : Nat) ≤ _); omega)
      refine Round.go (· + 1) hkn (by show n - (k + 1) < n - k; omega) (Weak.list [(0, some 0)] [] (by kernel_rfl) ?_ ?_)
      · repeat' (first | exact wsucc hkn (by omega) | exact DWl.eq (congrArg rowC (by rw [hD, List.take_of_length_le hge, rounds_succ]; rfl)) (rowC_all _) | exact DW.same _ rfl | exact DW.ref _ _ _ rfl | exact DW.arr _ _ _ rfl | exact OW.cells rfl rfl (DWl.same rfl) | refine OW.cells rfl rfl ?_ | refine DWl.cons ?_ ?_ | exact DWl.nil | exact DW.nilArr _ rfl | exact DW.nilLst _ | refine DW.clol ?_ ?_ | refine DW.aggl ?_ | refine DW.tupl ?_ | refine DW.int ?_ | refine DW.bool ?_ | refine DW.str ?_ | refine DW.arrE rfl ?_ | ((conv => whnf); first | refine And.intro ?_ ?_ | trivial))
      · repeat' (first | exact wsucc hkn (by omega) | exact DWl.eq (congrArg rowC (by rw [hD, List.take_of_length_le hge, rounds_succ]; rfl)) (rowC_all _) | exact DW.same _ rfl | exact DW.ref _ _ _ rfl | exact DW.arr _ _ _ rfl | exact OW.cells rfl rfl (DWl.same rfl) | refine OW.cells rfl rfl ?_ | refine DWl.cons ?_ ?_ | exact DWl.nil | exact DW.nilArr _ rfl | exact DW.nilLst _ | refine DW.clol ?_ ?_ | refine DW.aggl ?_ | refine DW.tupl ?_ | refine DW.int ?_ | refine DW.bool ?_ | refine DW.str ?_ | refine DW.arrE rfl ?_ | ((conv => whnf); first | refine And.intro ?_ ?_ | trivial))
  · rename_i k0 hk0 e0 e1 k hk
    have : k = n := by have := ge_int h; omega
    subst this
    exact Tells.of (r1 := ints (roundsD k l f k)) (by rw [distT_in (dist_in e1)]) (Tells.mk (DW.pubM rfl (roundsD_len _ _ _ _) rfl rfl (intsRow _) (rowC_eq _)))
end Go.Proofs.Ytphgcgggbbcjgaa
