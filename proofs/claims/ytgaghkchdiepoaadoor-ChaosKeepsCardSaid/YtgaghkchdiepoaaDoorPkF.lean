/- ChaosKeeps: what the law's loops compute, in plain Lean. -/
import Derived.Test.YtgaghkchdiepoaaDoorPkE

namespace Go.Proofs.YtgaghkchdiepoaaDoor
open Go.RowKit Go.Dl

noncomputable def stepF (l : List Stp) (at_ : Nat) (s : Stp) : Nat := if at_ < l.length ∧ s = l.getD at_ stp0 then at_ + 1 else at_
theorem findK_append (l : List Stp) (s : Stp) : ∀ (a : List Stp) (at_ : Nat), findK l (a ++ [s]) at_ = stepF l (findK l a at_) s := by
  intro a
  induction a with
  | nil => intro at_; rfl
  | cons b a ih => intro at_; exact ih _
theorem findK_succ {l out : List Stp} {k : Nat} (hk : k < out.length) : findK l (out.take (k + 1)) 0 = stepF l (findK l (out.take k) 0) (out.getD k stp0) := by
  rw [take_succ (d := stp0) hk, findK_append]
def inb (k : Int) : Prop := -4611686018427387904 ≤ k ∧ k ≤ 4611686018427387904
theorem count_get (x : Int) (hx : x = 1 ∨ x = -1) : ∀ (l : List Stp) (D : List Int) (B : Int), D.length = 16 → (∀ k, -B ≤ D.getD k 0 ∧ D.getD k 0 ≤ B) → B + l.length ≤ 4611686018427387904 → ∀ k : Nat, k < 16 → (countF x l D).getD k 0 = D.getD k 0 + (if k = 0 then 0 else x * cnt k l) := by
  intro l
  induction l with
  | nil => intro D B _ _ _ k _; simp [countF, cnt]
  | cons s l ih =>
    intro D B hD hB hl k hk
    rw [List.length_cons] at hl
    have hc : countF x (s :: l) D = countF x l (addK x D s) := rfl
    have hcn : (cnt (k : Int) (s :: l) : Int) = (if s.kind = (k : Int) then 1 else 0) + (cnt k l : Int) := by
      rw [cnt, List.countP_cons]
      by_cases h : s.kind = (k : Int)
      · simp [h, cnt]; omega
      · simp [h, cnt]
    by_cases hb : kindB s = true
    · have hk0 : 0 < s.kind ∧ s.kind < 16 := by unfold kindB at hb; simp at hb; omega
      have hget : ∀ j, (addK x D s).getD j 0 = if j = s.kind.toNat then D.getD j 0 + x else D.getD j 0 := by
        intro j
        rw [addK, if_pos hb]
        by_cases hj : j = s.kind.toNat
        · subst hj
          rw [if_pos rfl, List.getD_eq_getElem?_getD, List.getElem?_set_self (by omega)]
          have := hB s.kind.toNat
          show IntKind.i64.wrap _ = _
          exact wrapI (by rcases hx with rfl | rfl <;> omega) (by rcases hx with rfl | rfl <;> omega)
        · rw [if_neg hj, List.getD_eq_getElem?_getD, List.getElem?_set_ne (by omega), ← List.getD_eq_getElem?_getD]
      rw [hc, ih (addK x D s) (B + 1) (by rw [addK_len, hD]) (by
        intro j
        have := hB j
        rw [hget j]
        split
        · rcases hx with rfl | rfl <;> omega
        · omega) (by omega) k hk, hget k, hcn]
      by_cases h0 : k = 0
      · rw [if_pos h0, if_pos h0, if_neg (by omega)]
      · rw [if_neg h0, if_neg h0]
        by_cases hj : k = s.kind.toNat
        · rw [if_pos hj, if_pos (by omega), Int.mul_add]; omega
        · rw [if_neg hj, if_neg (by omega)]; simp
    · rw [hc, show addK x D s = D by rw [addK, if_neg hb], ih D B hD hB (by omega) k hk, hcn]
      by_cases h0 : k = 0
      · rw [if_pos h0, if_pos h0]
      · rw [if_neg h0, if_neg h0, if_neg (by
          intro e
          apply hb
          unfold kindB
          rw [e]; simp; omega)]
        simp
/-- How many steps of kind k have been put in. -/
def cq (q : List Stp) (k : Nat) : Nat := if k = 0 then 0 else cnt k q
theorem countT_get {l out q : List Stp} (h : Laid l out q) (hs : out.length ≤ 1000000) {k : Nat} (hk : k < 16) : (countT l out).getD k 0 = cq q k := by
  have hl : l.length ≤ out.length := h.sub.length_le
  have h0 : ∀ j : Nat, (List.replicate 16 (0 : Int)).getD j 0 = 0 := by
    intro j
    rw [List.getD_eq_getElem?_getD, List.getElem?_replicate]
    split <;> rfl
  have h1 := count_get 1 (.inl rfl) out (List.replicate 16 0) 0 (by simp) (by intro k; rw [h0]; omega) (by omega)
  have hb : ∀ k : Nat, -1000000 ≤ (countF 1 out (List.replicate 16 0)).getD k 0 ∧ (countF 1 out (List.replicate 16 0)).getD k 0 ≤ 1000000 := by
    intro j
    by_cases hj : j < 16
    · rw [h1 j hj, h0]
      have : cnt (j : Int) out ≤ out.length := List.countP_le_length
      split <;> omega
    · have : (countF 1 out (List.replicate 16 0)).length = 16 := by rw [countF_len]; rfl
      rw [List.getD_eq_getElem?_getD, List.getElem?_eq_none (by omega)]; simp
  rw [countT, count_get (-1) (.inr rfl) l _ 1000000 (by rw [countF_len]; rfl) hb (by omega) k hk, h1 k hk, h0, cq]
  have := h.cn (k : Int)
  by_cases e : k = 0
  · rw [if_pos e, if_pos e, if_pos e]; rfl
  · rw [if_neg e, if_neg e, if_neg e]; omega
theorem sum_cq {q : List Stp} (h : ∀ s ∈ q, 7 ≤ s.kind ∧ s.kind ≤ 15) : sumN (cq q) 16 = q.length := by
  induction q with
  | nil => rfl
  | cons s q ih =>
    have h1 : cq (s :: q) = fun k => hit (decide (k = s.kind.toNat) && true) + cq q k := by
      funext k
      have := h s (List.mem_cons_self ..)
      unfold cq cnt
      rw [List.countP_cons]
      by_cases hk : k = 0
      · rw [if_pos hk, if_pos hk, hk, show decide (0 = s.kind.toNat) = false from decide_eq_false (by omega)]; rfl
      · rw [if_neg hk, if_neg hk]
        by_cases e : s.kind = (k : Int)
        · rw [show decide (k = s.kind.toNat) = true from decide_eq_true (by omega), if_pos (by simp [e])]; simp [hit]; omega
        · rw [show decide (k = s.kind.toNat) = false from decide_eq_false (by omega), if_neg (by simp [e])]; simp [hit]
    have h2 := h s (List.mem_cons_self ..)
    rw [h1, sumN_add, ih (fun s hs => h s (List.mem_cons_of_mem _ hs)), sumN_one _ s.kind.toNat true 16 (fun i _ => rfl), show decide (s.kind.toNat < 16) = true from decide_eq_true (by omega)]
    simp [hit]; omega
theorem sumN_le (f : Nat → Nat) {i j : Nat} (h : i ≤ j) : sumN f i ≤ sumN f j := by
  induction h with
  | refl => exact Nat.le_refl _
  | step _ ih => exact Nat.le_trans ih (by rw [sumN]; omega)
theorem keeps_of {n : Int} {p : List Mx} (hf : FitP n p) (l : List Stp) (x : Int) : ∃ q, Laid l (layT p l x) q ∧ cnt 14 q = cnt 15 q ∧ cnt 10 q = cnt 11 q := by
  refine lay_keeps p (fun m hm => ?_) l x
  obtain ⟨i, hi, e⟩ := List.mem_iff_getElem.1 hm
  have := hf.2.2.2 i hi
  rw [List.getD_eq_getElem?_getD, List.getElem?_eq_getElem hi] at this
  have he : p[i] = m := e
  have h2 : EntP n m := by rw [← he]; exact this
  unfold EntP at h2
  omega
end Go.Proofs.YtgaghkchdiepoaaDoor

/- What ChaosKeeps computes. -/
namespace Go.Proofs.YtgaghkchdiepoaaDoor
open Go.RowKit Go.Dl
attribute [local irreducible] Tri SCall TSem ECall Drawn DFun QSem PSem PCall GCall MCall Round Weak dloadE OW DWl Tells IntKind.wrap Retold ESem
theorem keep_yes {n : Int} {p : List Mx} {l : List Stp} (h : (bif !fitB n p then true else decide ((4096 : Int) < (((l.map stpD).length : Nat) : Int))) = false) : FitP n p ∧ l.length ≤ 4096 := by
  cases e : fitB n p
  · rw [e] at h; cases h
  · rw [e] at h
    rw [List.length_map] at h
    exact ⟨of_decide_eq_true e, by have h := of_decide_eq_false h; omega⟩
theorem keep_no {n : Int} {p : List Mx} {l : List Stp} (hy : FitP n p ∧ l.length ≤ 4096) : (bif !fitB n p then true else decide ((4096 : Int) < (((l.map stpD).length : Nat) : Int))) = false := by
  rw [show fitB n p = true from decide_eq_true hy.1, List.length_map]
  have := hy.2
  simp; omega
attribute [local irreducible] layT fitB countT
set_option maxRecDepth 20000 in
theorem keeps7_N (n : Int) (l : List Stp) (p : List Mx) (x : Int) (hno : ¬ (FitP n p ∧ l.length ≤ 4096)) : DPure Tryd.prog 7 [int1 n, stps l, mxs p, u64 x] (bl true) := by
  refine DFun.data (DFun.body Tryd.func7 rfl (by kernel_rfl) ?_)
  repeat' (first | with_reducible rfl | ((conv => whnf); first | refine And.intro ?_ ?_ | (intro h; first | with_reducible exact tf_no h | with_reducible exact ft_no h | exact Bool.noConfusion h | with_reducible exact h | (exact absurd (keep_yes h) hno) | (have ht : true = true := h; clear ht h) | skip) | ((with_reducible refine DWl.mark ?_); repeat' (first | refine DWl.cons ?_ ?_ | exact DWl.nil | exact DW.same _ rfl | exact DW.ref _ _ _ rfl | exact DW.arr _ _ _ rfl | exact DW.sub _ _ _ _ rfl | exact DW.nilLst _ | refine DW.aggl ?_ | refine DW.tupl ?_ | refine DW.clol ?_ ?_ | refine DW.int ?_ | refine DW.bool ?_ | refine DW.str ?_)) | ((with_reducible refine SCall.mark ?_); first | refine SCall.data (fit9_D n p) rfl rfl ?_ | refine SCall.scal (fit9_D n p) rfl rfl ?_ | refine SCall.data (awake13_D) rfl rfl ?_ | refine SCall.scal (awake13_D) rfl rfl ?_) | ((with_reducible refine PCall.mark ?_); first | refine PCall.mk (fit9_D n p) rfl rfl ?_ | refine PCall.mk (awake13_D) rfl rfl ?_) | ((with_reducible refine GCall.mark ?_); first | refine GCall.data (fun _ => fit9_D n p) rfl rfl ?_ | refine GCall.scal (fun _ => fit9_D n p) rfl rfl ?_ | refine GCall.data (fun _ => awake13_D) rfl rfl ?_ | refine GCall.scal (fun _ => awake13_D) rfl rfl ?_) | ((with_reducible refine MCall.mark ?_); first | refine MCall.data (fun _ => fit9_D n p) rfl rfl ?_ | refine MCall.plain (PCall.mk (fit9_D n p) rfl rfl ?_) | refine MCall.data (fun _ => awake13_D) rfl rfl ?_ | refine MCall.plain (PCall.mk (awake13_D) rfl rfl ?_)) | ((with_reducible refine ECall.mark ?_); first | refine ECall.only ?_ (fun h => nomatch h) | refine ECall.only ?_ ?_) | ((with_reducible refine Drawn.mark ?_); first | refine Drawn.quiet (by kernel_rfl) ?_) | refine dcell_ok rfl ?_ | refine AppC.new ?_))
  all_goals first | (with_reducible refine enters_mark ?_; kernel_rfl) | (with_reducible refine boolT_mark ?_; kernel_rfl) | rfl | trivial | assumption | exact Nat.le_of_ble_eq_true rfl | (show entersB _ _ = true; kernel_rfl) | exact DW.same _ rfl | exact DW.ref _ _ _ rfl | exact DW.arr _ _ _ rfl | refine DW.int ?_ | refine dvb ?_ | refine dvi ?_ | exact OW.cells rfl rfl (DWl.same rfl) | exact Nat.zero_le _ | omega | skip
  all_goals repeat' (first | refine OW.cells rfl rfl ?_ | exact DW.nilArr _ rfl | refine DWl.cons ?_ ?_ | exact DWl.nil | exact DW.same _ rfl | exact DW.ref _ _ _ rfl | exact DW.arr _ _ _ rfl | exact DW.sub _ _ _ _ rfl | exact DW.nilLst _ | refine DW.aggl ?_ | refine DW.tupl ?_ | refine DW.clol ?_ ?_)
  all_goals try ((conv => whnf); with_reducible first | refine Round.mark ?_ | refine Tells.mark ?_ | refine Retold.mark ?_)
  all_goals try first | (show (_ : Bool) = _; simp_all; done) | (show (_ : Int) < _; simp at *; omega) | (show (_ : Int) ≤ _; simp at *; omega) | (show (_ : Nat) < _; simp at *; omega) | (show (_ : Nat) ≤ _; simp at *; omega)
  conv => whnf
  exact Tells.mk (DW.bool rfl)
def k7A (n : Int) (l out : List Stp) (x : Int) (k : Nat × Nat) : St := ⟨0, tmOf [(0, int1 n), (1, stps l), (3, u64 x), (9, stps out), (10, int1 k.2), (11, int1 k.1)], .of [] 0⟩
theorem and_lt {k : Nat × Nat} {a b : Nat} (h : (bif decide ((k.1 : Int) < (a : Int)) then decide ((k.2 : Int) < (b : Int)) else false) = true) : k.1 < a ∧ k.2 < b := by
  cases e : decide ((k.1 : Int) < (a : Int))
  · rw [e] at h; cases h
  · rw [e] at h
    have h1 := of_decide_eq_true e
    have h2 : decide ((k.2 : Int) < (b : Int)) = true := h
    have h2 := of_decide_eq_true h2
    omega
theorem and_ge {k : Nat × Nat} {a b : Nat} (h : (bif decide ((k.1 : Int) < (a : Int)) then decide ((k.2 : Int) < (b : Int)) else false) = false) : a ≤ k.1 ∨ b ≤ k.2 := by
  cases e : decide ((k.1 : Int) < (a : Int))
  · have h1 := of_decide_eq_false e; omega
  · rw [e] at h
    have h2 : decide ((k.2 : Int) < (b : Int)) = false := h
    have h2 := of_decide_eq_false h2
    omega
theorem stp_same {u v : Stp} (h : cellsEq [int1 u.kind, int1 u.a, int1 u.b, strV u.name, int1 u.k, int1 u.n] [int1 v.kind, int1 v.a, int1 v.b, strV v.name, int1 v.k, int1 v.n] = true) : u = v :=
  Classical.byContradiction fun hc => by
    have := (stp_ne (x := u) (y := v) (h := rfl)).2 hc
    rw [show cellsEq (stpD u) (stpD v) = true from h] at this
    cases this
theorem stp_diff {u v : Stp} (h : cellsEq [int1 u.kind, int1 u.a, int1 u.b, strV u.name, int1 u.k, int1 u.n] [int1 v.kind, int1 v.a, int1 v.b, strV v.name, int1 v.k, int1 v.n] = false) : u ≠ v :=
  (stp_ne (x := u) (y := v) (h := rfl)).1 (by rw [show cellsEq (stpD u) (stpD v) = false from h]; rfl)
theorem test7 {k : Nat} {l : List Stp} {C : List Int} {q : List Stp} (hat : k = l.length) (hC16 : C.length = 16) (hC : ∀ k : Nat, k < 16 → C.getD k 0 = cq q k) (hm : cnt 14 q = cnt 15 q) (hr : cnt 10 q = cnt 11 q) :
    (bif bif bif (k : Int) != (((l.map stpD).length : Nat) : Int) then true else (((C.map intD).length : Nat) : Int) != 16 then true else C.getD (Int.toNat 14) 0 != C.getD (Int.toNat 15) 0 then true else C.getD (Int.toNat 10) 0 != C.getD (Int.toNat 11) 0) = false := by
  rw [List.length_map, List.length_map, hat, hC16, hC _ (by decide), hC _ (by decide), hC _ (by decide), hC _ (by decide)]
  have e1 : cq q (Int.toNat 14) = cq q (Int.toNat 15) := hm
  have e2 : cq q (Int.toNat 10) = cq q (Int.toNat 11) := hr
  rw [e1, e2]
  simp
theorem wadd {C : List Int} {q : List Stp} {k m : Nat} (h : C.getD k 0 = cq q k) (hm : m + cq q k ≤ 1000000) : IntKind.i64.wrap ((m : Int) + C.getD ((k : Nat) : Int).toNat 0) = ((m + cq q k : Nat) : Int) := by
  rw [Int.toNat_natCast, h, wrapI (by omega) (by omega)]
  omega
theorem last7 {l out q : List Stp} {m : Nat} (hL : Laid l out q) (hb : out.length ≤ 1000000) (hm : m ≤ l.length) :
    (bif bif bif IntKind.i64.wrap ((q.length : Int) + (((l.map stpD).length : Nat) : Int)) == (((out.map stpD).length : Nat) : Int) then decide ((m : Int) ≤ (((l.map stpD).length : Nat) : Int)) else false then true else false then true else false) = true := by
  have := hL.len
  rw [List.length_map, List.length_map, wrapI (by omega) (by omega), show ((q.length : Int) + l.length == (out.length : Int)) = true by simp; omega]
  simp; omega
def k7B (n : Int) (l out : List Stp) (C : List Int) (x : Int) (k : Nat × Nat) : St := ⟨0, tmOf [(0, int1 n), (1, stps l), (3, u64 x), (9, stps out), (12, ints C), (13, int1 k.2), (14, int1 k.1)], .of [] 0⟩
def k7C (n : Int) (l out : List Stp) (t x : Int) (k : Nat × Nat) : St := ⟨0, tmOf [(0, int1 n), (1, stps l), (3, u64 x), (9, stps out), (13, int1 t), (15, int1 k.2), (16, int1 k.1)], .of [] 0⟩
set_option maxRecDepth 20000 in
theorem keeps7_Y (n : Int) (l : List Stp) (p : List Mx) (x : Int) (hy : FitP n p ∧ l.length ≤ 4096) : DPure Tryd.prog 7 [int1 n, stps l, mxs p, u64 x] (bl true) := by
  have hb : (layT p l x).length ≤ 1000000 := Nat.le_trans (show (layT p l x).length ≤ 300000 by unfold layT; exact lay_small hy.1.2.2.1 hy.2 (Nat.le_refl _)) (by decide)
  have hl := hy.2
  have h14 := lay14_D n p l x hy.1 hy.2
  have hq := keeps_of (n := n) (p := p) hy.1 l x
  generalize layT p l x = out at hb h14 hq
  obtain ⟨q, hL, hm, hr⟩ := hq
  have h11 := count11_D l out (by omega) (by omega)
  have hC : ∀ k : Nat, k < 16 → (countT l out).getD k 0 = cq q k := fun k hk => countT_get hL hb hk
  have hC16 := countT_len l out
  generalize countT l out = C at h11 hC hC16
  have h15 : DPure Tryd.prog 15 [stps l, stps l] (bl true) := by
    have := steps_D l l
    rw [decide_eq_true rfl] at this
    exact this
  have hnil : DPure Tryd.prog 14 [int1 n, stps l, mxs [], u64 x] (stps l) := by
    have := lay14_D n [] l x ⟨hy.1.1, hy.1.2.1, Nat.zero_le _, fun i hi => absurd hi (Nat.not_lt_zero i)⟩ hl
    rw [layT_nil] at this
    exact this
  refine DFun.data (DFun.body Tryd.func7 rfl (by kernel_rfl) ?_)
  repeat' (first | with_reducible rfl | ((conv => whnf); first | refine And.intro ?_ ?_ | (intro h; first | with_reducible exact tf_no h | with_reducible exact ft_no h | exact Bool.noConfusion h | with_reducible exact h | (exact absurd (h.symm.trans (keep_no hy)) (by decide)) | (have ht : true = true := h; clear ht h) | skip) | ((with_reducible refine DWl.mark ?_); repeat' (first | refine DWl.cons ?_ ?_ | exact DWl.nil | exact DW.same _ rfl | exact DW.ref _ _ _ rfl | exact DW.arr _ _ _ rfl | exact DW.sub _ _ _ _ rfl | exact DW.nilLst _ | refine DW.aggl ?_ | refine DW.tupl ?_ | refine DW.clol ?_ ?_ | refine DW.int ?_ | refine DW.bool ?_ | refine DW.str ?_)) | ((with_reducible refine SCall.mark ?_); first | refine SCall.data (fit9_D n p) rfl rfl ?_ | refine SCall.scal (fit9_D n p) rfl rfl ?_ | refine SCall.data (h14) rfl rfl ?_ | refine SCall.scal (h14) rfl rfl ?_ | refine SCall.data (awake13_D) rfl rfl ?_ | refine SCall.scal (awake13_D) rfl rfl ?_) | ((with_reducible refine PCall.mark ?_); first | refine PCall.mk (fit9_D n p) rfl rfl ?_ | refine PCall.mk (h14) rfl rfl ?_ | refine PCall.mk (awake13_D) rfl rfl ?_) | ((with_reducible refine GCall.mark ?_); first | refine GCall.data (fun _ => fit9_D n p) rfl rfl ?_ | refine GCall.scal (fun _ => fit9_D n p) rfl rfl ?_ | refine GCall.data (fun _ => h14) rfl rfl ?_ | refine GCall.scal (fun _ => h14) rfl rfl ?_ | refine GCall.data (fun _ => awake13_D) rfl rfl ?_ | refine GCall.scal (fun _ => awake13_D) rfl rfl ?_) | ((with_reducible refine MCall.mark ?_); first | refine MCall.data (fun _ => fit9_D n p) rfl rfl ?_ | refine MCall.plain (PCall.mk (fit9_D n p) rfl rfl ?_) | refine MCall.data (fun _ => h14) rfl rfl ?_ | refine MCall.plain (PCall.mk (h14) rfl rfl ?_) | refine MCall.data (fun _ => awake13_D) rfl rfl ?_ | refine MCall.plain (PCall.mk (awake13_D) rfl rfl ?_)) | ((with_reducible refine Tri.mark ?_); first | refine Tri.loop (k7A n l out x) (fun k => k.1 ≤ out.length ∧ k.2 ≤ l.length ∧ k.2 = findK l (out.take k.1) 0) (fun k => out.length - k.1) ((0, 0)) (by kernel_rfl) (Weak.list [] [] ?_ ?_ ?_) ?_ ?_) | ((with_reducible refine ex_mark ?_); first | refine dq_eql k34 ?_ rfl ?_ rfl rfl ?_ | refine dq_neq k34 ?_ rfl ?_ rfl rfl ?_) | ((with_reducible refine ECall.mark ?_); first | refine ECall.only ?_ (fun h => nomatch h) | refine ECall.only ?_ ?_) | ((with_reducible refine Drawn.mark ?_); first | refine Drawn.quiet (by kernel_rfl) ?_) | refine dloadE_map (stp0) ?_ ?_ | refine dcell_ok rfl ?_ | refine AppC.new ?_))
  all_goals first | (with_reducible refine enters_mark ?_; kernel_rfl) | (with_reducible refine boolT_mark ?_; kernel_rfl) | rfl | trivial | assumption | exact Nat.le_of_ble_eq_true rfl | (show entersB _ _ = true; kernel_rfl) | exact DW.same _ rfl | exact DW.ref _ _ _ rfl | exact DW.arr _ _ _ rfl | refine DW.int ?_ | refine dvb ?_ | refine dvi ?_ | exact OW.cells rfl rfl (DWl.same rfl) | exact Nat.zero_le _ | omega | skip
  all_goals repeat' (first | refine OW.cells rfl rfl ?_ | exact DW.nilArr _ rfl | refine DWl.cons ?_ ?_ | exact DWl.nil | exact DW.same _ rfl | exact DW.ref _ _ _ rfl | exact DW.arr _ _ _ rfl | exact DW.sub _ _ _ _ rfl | exact DW.nilLst _ | refine DW.aggl ?_ | refine DW.tupl ?_ | refine DW.clol ?_ ?_)
  all_goals try ((conv => whnf); with_reducible first | refine Round.mark ?_ | refine Tells.mark ?_ | refine Retold.mark ?_)
  all_goals try first | (show (_ : Bool) = _; simp_all; done) | (show (_ : Int) < _; simp at *; omega) | (show (_ : Int) ≤ _; simp at *; omega) | (show (_ : Nat) < _; simp at *; omega) | (show (_ : Nat) ≤ _; simp at *; omega)
  · rename_i k hk h1
    rw [List.length_map, List.length_map] at h1
    have hlt := and_lt h1
    have he := stp_same h
    refine Round.go (fun _ => (k.1 + 1, k.2 + 1)) ⟨hlt.1, hlt.2, ?_⟩ (by show out.length - (k.1 + 1) < out.length - k.1; omega) (Weak.list [] [] (by kernel_rfl) ?_ ?_)
    · rw [findK_succ hlt.1, ← hk.2.2, stepF, if_pos ⟨hlt.2, by simpa using he⟩]
    · repeat' (first | exact wsucc hlt.1 (by omega) | exact wsucc hlt.2 (by omega) | exact DW.same _ rfl | exact DW.ref _ _ _ rfl | exact DW.arr _ _ _ rfl | exact OW.cells rfl rfl (DWl.same rfl) | refine OW.cells rfl rfl ?_ | refine DWl.cons ?_ ?_ | exact DWl.nil | exact DW.nilArr _ rfl | exact DW.nilLst _ | refine DW.clol ?_ ?_ | refine DW.aggl ?_ | refine DW.tupl ?_ | refine DW.int ?_ | refine DW.bool ?_ | refine DW.str ?_ | refine DW.arrE rfl ?_ | ((conv => whnf); first | refine And.intro ?_ ?_ | trivial))
    · repeat' (first | exact wsucc hlt.1 (by omega) | exact wsucc hlt.2 (by omega) | exact DW.same _ rfl | exact DW.ref _ _ _ rfl | exact DW.arr _ _ _ rfl | exact OW.cells rfl rfl (DWl.same rfl) | refine OW.cells rfl rfl ?_ | refine DWl.cons ?_ ?_ | exact DWl.nil | exact DW.nilArr _ rfl | exact DW.nilLst _ | refine DW.clol ?_ ?_ | refine DW.aggl ?_ | refine DW.tupl ?_ | refine DW.int ?_ | refine DW.bool ?_ | refine DW.str ?_ | refine DW.arrE rfl ?_ | ((conv => whnf); first | refine And.intro ?_ ?_ | trivial))
  · rename_i k hk h1
    rw [List.length_map, List.length_map] at h1
    have hlt := and_lt h1
    have he := stp_diff h
    refine Round.go (fun _ => (k.1 + 1, k.2)) ⟨hlt.1, hk.2.1, ?_⟩ (by show out.length - (k.1 + 1) < out.length - k.1; omega) (Weak.list [] [] (by kernel_rfl) ?_ ?_)
    · rw [findK_succ hlt.1, ← hk.2.2, stepF, if_neg (fun h => he (by simpa using h.2))]
    · repeat' (first | exact wsucc hlt.1 (by omega) | exact DW.same _ rfl | exact DW.ref _ _ _ rfl | exact DW.arr _ _ _ rfl | exact OW.cells rfl rfl (DWl.same rfl) | refine OW.cells rfl rfl ?_ | refine DWl.cons ?_ ?_ | exact DWl.nil | exact DW.nilArr _ rfl | exact DW.nilLst _ | refine DW.clol ?_ ?_ | refine DW.aggl ?_ | refine DW.tupl ?_ | refine DW.int ?_ | refine DW.bool ?_ | refine DW.str ?_ | refine DW.arrE rfl ?_ | ((conv => whnf); first | refine And.intro ?_ ?_ | trivial))
    · repeat' (first | exact wsucc hlt.1 (by omega) | exact DW.same _ rfl | exact DW.ref _ _ _ rfl | exact DW.arr _ _ _ rfl | exact OW.cells rfl rfl (DWl.same rfl) | refine OW.cells rfl rfl ?_ | refine DWl.cons ?_ ?_ | exact DWl.nil | exact DW.nilArr _ rfl | exact DW.nilLst _ | refine DW.clol ?_ ?_ | refine DW.aggl ?_ | refine DW.tupl ?_ | refine DW.int ?_ | refine DW.bool ?_ | refine DW.str ?_ | refine DW.arrE rfl ?_ | ((conv => whnf); first | refine And.intro ?_ ?_ | trivial))
  · rename_i k hk
    rw [List.length_map, List.length_map] at h
    have hat : k.2 = l.length := by
      rcases and_ge h with h2 | h2
      · rw [hk.2.2, List.take_of_length_le h2]; exact find_found hL.sub
      · exact Nat.le_antisymm hk.2.1 h2
    clear h
    have ht := test7 (l := l) hat hC16 hC hm hr
    repeat' (first | with_reducible rfl | ((conv => whnf); first | refine And.intro ?_ ?_ | (intro h; first | with_reducible exact tf_no h | with_reducible exact ft_no h | exact Bool.noConfusion h | with_reducible exact h | (exact absurd (h.symm.trans ht) (by decide)) | (have ht : true = true := h; clear ht h) | skip) | ((with_reducible refine DWl.mark ?_); repeat' (first | refine DWl.cons ?_ ?_ | exact DWl.nil | exact DW.same _ rfl | exact DW.ref _ _ _ rfl | exact DW.arr _ _ _ rfl | exact DW.sub _ _ _ _ rfl | exact DW.nilLst _ | refine DW.aggl ?_ | refine DW.tupl ?_ | refine DW.clol ?_ ?_ | refine DW.int ?_ | refine DW.bool ?_ | refine DW.str ?_)) | ((with_reducible refine SCall.mark ?_); first | refine SCall.data (h11) rfl rfl ?_ | refine SCall.scal (h11) rfl rfl ?_ | refine SCall.tell [] (hnil) ?_ rfl rfl ?_ | refine SCall.data (h15) rfl rfl ?_ | refine SCall.scal (h15) rfl rfl ?_ | refine SCall.data (awake13_D) rfl rfl ?_ | refine SCall.scal (awake13_D) rfl rfl ?_) | ((with_reducible refine PCall.mark ?_); first | refine PCall.mk (h11) rfl rfl ?_ | refine PCall.mk (h15) rfl rfl ?_ | refine PCall.mk (awake13_D) rfl rfl ?_) | ((with_reducible refine GCall.mark ?_); first | refine GCall.data (fun _ => h11) rfl rfl ?_ | refine GCall.scal (fun _ => h11) rfl rfl ?_ | refine GCall.tell (fun _ => hnil) ?_ rfl rfl ?_ | refine GCall.data (fun _ => h15) rfl rfl ?_ | refine GCall.scal (fun _ => h15) rfl rfl ?_ | refine GCall.data (fun _ => awake13_D) rfl rfl ?_ | refine GCall.scal (fun _ => awake13_D) rfl rfl ?_) | ((with_reducible refine MCall.mark ?_); first | refine MCall.data (fun _ => h11) rfl rfl ?_ | refine MCall.plain (PCall.mk (h11) rfl rfl ?_) | refine MCall.data (fun _ => h15) rfl rfl ?_ | refine MCall.plain (PCall.mk (h15) rfl rfl ?_) | refine MCall.data (fun _ => awake13_D) rfl rfl ?_ | refine MCall.plain (PCall.mk (awake13_D) rfl rfl ?_)) | ((with_reducible refine Tri.mark ?_); first | (refine Tri.at (14) (int1 0) (by rfl) ?_; refine Tri.loop (k7B n l out C x) (fun k => k.1 ≤ 16 ∧ k.2 = sumN (cq q) k.1) (fun k => 16 - k.1) ((0, 0)) (by kernel_rfl) (Weak.list [] [] ?_ ?_ ?_) ?_ ?_) | (refine Tri.at (16) (int1 0) (by rfl) ?_; refine Tri.loop (k7C n l out q.length x) (fun k => k.1 ≤ l.length ∧ k.2 ≤ k.1) (fun k => l.length - k.1) ((0, 0)) (by kernel_rfl) (Weak.list [] [] ?_ ?_ ?_) ?_ ?_)) | ((with_reducible refine ECall.mark ?_); first | refine ECall.only ?_ (fun h => nomatch h) | refine ECall.only ?_ ?_) | ((with_reducible refine Drawn.mark ?_); first | refine Drawn.quiet (by kernel_rfl) ?_) | refine dloadE_map (0) ?_ ?_ | refine dloadE_map (stp0) ?_ ?_ | refine dcell_ok rfl ?_ | refine AppC.new ?_))
    all_goals first | (with_reducible refine enters_mark ?_; kernel_rfl) | (with_reducible refine boolT_mark ?_; kernel_rfl) | rfl | trivial | assumption | exact Nat.le_of_ble_eq_true rfl | (show entersB _ _ = true; kernel_rfl) | exact DW.same _ rfl | exact DW.ref _ _ _ rfl | exact DW.arr _ _ _ rfl | refine DW.int ?_ | refine dvb ?_ | refine dvi ?_ | exact OW.cells rfl rfl (DWl.same rfl) | exact Nat.zero_le _ | omega | skip
    all_goals repeat' (first | refine OW.cells rfl rfl ?_ | exact DW.nilArr _ rfl | refine DWl.cons ?_ ?_ | exact DWl.nil | exact DW.same _ rfl | exact DW.ref _ _ _ rfl | exact DW.arr _ _ _ rfl | exact DW.sub _ _ _ _ rfl | exact DW.nilLst _ | refine DW.aggl ?_ | refine DW.tupl ?_ | refine DW.clol ?_ ?_)
    all_goals try ((conv => whnf); with_reducible first | refine Round.mark ?_ | refine Tells.mark ?_ | refine Retold.mark ?_)
    all_goals try first | (show (_ : Bool) = _; simp_all; done) | (show (_ : Int) < _; simp at *; omega) | (show (_ : Int) ≤ _; simp at *; omega) | (show (_ : Nat) < _; simp at *; omega) | (show (_ : Nat) ≤ _; simp at *; omega)
    · rename_i k hk h1
      exfalso
      rw [List.length_map] at h1
      have h1 := lt_int h1
      rw [Int.toNat_natCast, hC _ (by omega)] at h
      have := of_decide_eq_true h
      omega
    · rename_i k hk h1
      rw [List.length_map] at h1
      have h1 := lt_int h1
      have h16 : k.1 < 16 := by omega
      have hs := sumN_le (cq q) (show k.1 + 1 ≤ 16 by omega)
      rw [sum_cq hL.kinds, sumN] at hs
      have hql : q.length ≤ 1000000 := by have := hL.len; omega
      refine Round.go (fun _ => (k.1 + 1, k.2 + cq q k.1)) ⟨h16, by rw [hk.2]; rfl⟩ (by show 16 - (k.1 + 1) < 16 - k.1; omega) (Weak.list [] [] (by kernel_rfl) ?_ ?_)
      · repeat' (first | exact wsucc h16 (by omega) | exact wadd (hC _ h16) (by rw [hk.2]; omega) | exact DW.same _ rfl | exact DW.ref _ _ _ rfl | exact DW.arr _ _ _ rfl | exact OW.cells rfl rfl (DWl.same rfl) | refine OW.cells rfl rfl ?_ | refine DWl.cons ?_ ?_ | exact DWl.nil | exact DW.nilArr _ rfl | exact DW.nilLst _ | refine DW.clol ?_ ?_ | refine DW.aggl ?_ | refine DW.tupl ?_ | refine DW.int ?_ | refine DW.bool ?_ | refine DW.str ?_ | refine DW.arrE rfl ?_ | ((conv => whnf); first | refine And.intro ?_ ?_ | trivial))
      · repeat' (first | exact wsucc h16 (by omega) | exact wadd (hC _ h16) (by rw [hk.2]; omega) | exact DW.same _ rfl | exact DW.ref _ _ _ rfl | exact DW.arr _ _ _ rfl | exact OW.cells rfl rfl (DWl.same rfl) | refine OW.cells rfl rfl ?_ | refine DWl.cons ?_ ?_ | exact DWl.nil | exact DW.nilArr _ rfl | exact DW.nilLst _ | refine DW.clol ?_ ?_ | refine DW.aggl ?_ | refine DW.tupl ?_ | refine DW.int ?_ | refine DW.bool ?_ | refine DW.str ?_ | refine DW.arrE rfl ?_ | ((conv => whnf); first | refine And.intro ?_ ?_ | trivial))
    · rename_i k hk
      rw [List.length_map] at h
      have h1 := ge_int h
      rw [hk.2, show k.1 = 16 by omega, sum_cq hL.kinds]
    · rename_i k hk h1
      rw [List.length_map] at h1
      have h1 := lt_int h1
      refine Round.go (fun _ => (k.1 + 1, k.2 + 1)) ⟨h1, by show k.2 + 1 ≤ k.1 + 1; omega⟩ (by show l.length - (k.1 + 1) < l.length - k.1; omega) (Weak.list [] [] (by kernel_rfl) ?_ ?_)
      · repeat' (first | exact wsucc h1 (by omega) | exact wsucc (Nat.lt_of_le_of_lt hk.2 h1) (by omega) | exact DW.same _ rfl | exact DW.ref _ _ _ rfl | exact DW.arr _ _ _ rfl | exact OW.cells rfl rfl (DWl.same rfl) | refine OW.cells rfl rfl ?_ | refine DWl.cons ?_ ?_ | exact DWl.nil | exact DW.nilArr _ rfl | exact DW.nilLst _ | refine DW.clol ?_ ?_ | refine DW.aggl ?_ | refine DW.tupl ?_ | refine DW.int ?_ | refine DW.bool ?_ | refine DW.str ?_ | refine DW.arrE rfl ?_ | ((conv => whnf); first | refine And.intro ?_ ?_ | trivial))
      · repeat' (first | exact wsucc h1 (by omega) | exact wsucc (Nat.lt_of_le_of_lt hk.2 h1) (by omega) | exact DW.same _ rfl | exact DW.ref _ _ _ rfl | exact DW.arr _ _ _ rfl | exact OW.cells rfl rfl (DWl.same rfl) | refine OW.cells rfl rfl ?_ | refine DWl.cons ?_ ?_ | exact DWl.nil | exact DW.nilArr _ rfl | exact DW.nilLst _ | refine DW.clol ?_ ?_ | refine DW.aggl ?_ | refine DW.tupl ?_ | refine DW.int ?_ | refine DW.bool ?_ | refine DW.str ?_ | refine DW.arrE rfl ?_ | ((conv => whnf); first | refine And.intro ?_ ?_ | trivial))
    · rename_i k hk h1
      rw [List.length_map] at h1
      have h1 := lt_int h1
      refine Round.go (fun _ => (k.1 + 1, k.2)) ⟨h1, by show k.2 ≤ k.1 + 1; omega⟩ (by show l.length - (k.1 + 1) < l.length - k.1; omega) (Weak.list [] [] (by kernel_rfl) ?_ ?_)
      · repeat' (first | exact wsucc h1 (by omega) | exact DW.same _ rfl | exact DW.ref _ _ _ rfl | exact DW.arr _ _ _ rfl | exact OW.cells rfl rfl (DWl.same rfl) | refine OW.cells rfl rfl ?_ | refine DWl.cons ?_ ?_ | exact DWl.nil | exact DW.nilArr _ rfl | exact DW.nilLst _ | refine DW.clol ?_ ?_ | refine DW.aggl ?_ | refine DW.tupl ?_ | refine DW.int ?_ | refine DW.bool ?_ | refine DW.str ?_ | refine DW.arrE rfl ?_ | ((conv => whnf); first | refine And.intro ?_ ?_ | trivial))
      · repeat' (first | exact wsucc h1 (by omega) | exact DW.same _ rfl | exact DW.ref _ _ _ rfl | exact DW.arr _ _ _ rfl | exact OW.cells rfl rfl (DWl.same rfl) | refine OW.cells rfl rfl ?_ | refine DWl.cons ?_ ?_ | exact DWl.nil | exact DW.nilArr _ rfl | exact DW.nilLst _ | refine DW.clol ?_ ?_ | refine DW.aggl ?_ | refine DW.tupl ?_ | refine DW.int ?_ | refine DW.bool ?_ | refine DW.str ?_ | refine DW.arrE rfl ?_ | ((conv => whnf); first | refine And.intro ?_ ?_ | trivial))
    · rename_i k hk
      conv => whnf
      exact Tells.mk (DW.bool (last7 hL hb (Nat.le_trans hk.2 hk.1)))
theorem keeps7_D (n : Int) (l : List Stp) (p : List Mx) (x : Int) : DPure Tryd.prog 7 [int1 n, stps l, mxs p, u64 x] (bl true) :=
  if h : FitP n p ∧ l.length ≤ 4096 then keeps7_Y n l p x h else keeps7_N n l p x h
end Go.Proofs.YtgaghkchdiepoaaDoor
