/- A sorted row of pairs is one: putting them in place, or sorting them, is the same. -/
import Derived.Test.YtphgcgggbbcjgaaPkC
import Derived.Test.YtphgcgggbbcjgaaPkB
import Derived.Test.YtphgcgggbbcjgaaPkA

namespace Go.Proofs.Ytphgcgggbbcjgaa
open Go.RowKit Go.Dl Go.Sort

def ltL (x y : Lk) : Prop := x.1 < y.1 ∨ (x.1 = y.1 ∧ x.2 < y.2)
theorem gtB_iff {x y : Lk} : gtB y x = true ↔ ltL x y := by
  unfold gtB ltL
  by_cases h : x.1 < y.1
  · simp [h]
  · by_cases h2 : y.1 = x.1
    · simp [h2]
    · have : ¬ x.1 = y.1 := fun e => h2 e.symm
      simp [h, h2, this]
theorem ltL_trans {x y z : Lk} (h1 : ltL x y) (h2 : ltL y z) : ltL x z := by unfold ltL at *; omega
theorem ltL_irr {x : Lk} : ¬ ltL x x := by unfold ltL; omega
theorem ltL_conn {x y : Lk} (h : ¬ ltL x y) (hne : x ≠ y) : ltL y x := by
  unfold ltL at *
  have : ¬ (x.1 = y.1 ∧ x.2 = y.2) := fun e => hne (Prod.ext e.1 e.2)
  omega
def insL (x : Lk) : List Lk → List Lk
  | [] => [x]
  | y :: t => if gtB y x = true then x :: y :: t else y :: insL x t
theorem put_run_t (x : Lk) (l : List Lk) : ∀ acc, l.foldl (putStep x) (acc, true) = (acc ++ l, true) := by
  induction l with
  | nil => intro acc; simp
  | cons y l ih => intro acc; rw [List.foldl_cons, show putStep x (acc, true) y = (acc ++ [y], true) from rfl, ih]; simp
def putFin (x : Lk) (s : List Lk × Bool) : List Lk := if s.2 = true then s.1 else s.1 ++ [x]
theorem put_run_f (x : Lk) (l : List Lk) : ∀ acc, putFin x (l.foldl (putStep x) (acc, false)) = acc ++ insL x l := by
  induction l with
  | nil => intro acc; rfl
  | cons y l ih =>
    intro acc
    rw [List.foldl_cons]
    by_cases h : gtB y x = true
    · rw [show putStep x (acc, false) y = (acc ++ [x] ++ [y], true) from by unfold putStep; rw [if_pos (by simpa using h)], put_run_t, insL, if_pos h]
      simp [putFin]
    · rw [show putStep x (acc, false) y = (acc ++ [y], false) from by unfold putStep; rw [if_neg (by simpa using h)], ih, insL, if_neg h]
      simp
theorem putL_ins (x : Lk) (l : List Lk) : putL x l = insL x l := by
  have := put_run_f x l []
  unfold putL putAt
  rw [List.take_of_length_le (Nat.le_refl _)]
  simpa [putFin] using this
theorem ins_perm (x : Lk) (l : List Lk) : (insL x l).Perm (x :: l) := by
  induction l with
  | nil => exact .refl _
  | cons y l ih =>
    unfold insL
    split
    · exact .refl _
    · exact (List.Perm.cons y ih).trans (.swap _ _ _)
theorem ins_sorted {x : Lk} {l : List Lk} (h : l.Pairwise ltL) (hx : x ∉ l) : (insL x l).Pairwise ltL := by
  induction l with
  | nil => exact List.pairwise_singleton _ _
  | cons y l ih =>
    have hc := List.pairwise_cons.1 h
    unfold insL
    split
    · rename_i hg
      have hg := gtB_iff.1 hg
      refine List.pairwise_cons.2 ⟨fun z hz => ?_, h⟩
      rcases List.mem_cons.1 hz with rfl | hz
      · exact hg
      · exact ltL_trans hg (hc.1 z hz)
    · rename_i hg
      have hg : ltL y x := ltL_conn (fun e => hg (gtB_iff.2 e)) (fun e => hx (e ▸ List.mem_cons_self ..))
      refine List.pairwise_cons.2 ⟨fun z hz => ?_, ih hc.2 fun hh => hx (List.mem_cons_of_mem _ hh)⟩
      rcases List.mem_cons.1 ((ins_perm x l).mem_iff.1 hz) with rfl | hz
      · exact hg
      · exact hc.1 z hz
theorem sorted_one {l m : List Lk} (hl : l.Pairwise ltL) (hm : m.Pairwise ltL) (h : l.Perm m) : l = m := by
  induction l generalizing m with
  | nil => exact (List.nil_perm.1 h).symm
  | cons a l ih =>
    match m, hm, h with
    | [], _, h => exact absurd h.length_eq (by simp)
    | b :: m, hm, h =>
      have h1 := List.pairwise_cons.1 hl
      have h2 := List.pairwise_cons.1 hm
      have e : a = b := by
        rcases List.mem_cons.1 (h.mem_iff.1 (List.mem_cons_self ..)) with e | e
        · exact e
        · rcases List.mem_cons.1 (h.mem_iff.2 (List.mem_cons_self ..)) with e' | e'
          · exact e'.symm
          · exact absurd (ltL_trans (h1.1 _ e') (h2.1 _ e)) ltL_irr
      subst e
      rw [ih h1.2 h2.2 h.cons_inv]
theorem deg_perm {l m : List Lk} (h : l.Perm m) (v : Int) : degT l v = degT m v := h.countP_eq _
theorem nodup_of_sorted {l : List Lk} (h : l.Pairwise ltL) : l.Nodup := by
  refine List.Pairwise.imp (S := (· ≠ ·)) ?_ h
  intro a b hlt e
  subst e
  exact ltL_irr hlt

/-- A pair's lesser node stands first. -/
def upL (x : Lk) : Prop := x.1 < x.2
theorem putX_up {a b : Int} (h : a < b) : putX a b = (a, b) := by unfold putX; rw [if_neg (by omega), if_pos h]
theorem putT_new {l : List Lk} {a b : Int} (h : a < b) (hx : (a, b) ∉ l) : putT l a b = insL (a, b) l := by
  unfold putT
  have : (a == b) = false := by simp; omega
  rw [putX_up h, this, if_neg (by simpa using hx), putL_ins]
/-- Pairs put one after the other. -/
def putA (acc ps : List Lk) : List Lk := ps.foldl (fun l p => putT l p.1 p.2) acc
theorem putA_ok (ps : List Lk) : ∀ acc : List Lk, acc.Pairwise ltL → (∀ x ∈ ps, upL x) → (acc ++ ps).Nodup → (putA acc ps).Pairwise ltL ∧ (putA acc ps).Perm (acc ++ ps) := by
  induction ps with
  | nil => intro acc h _ _; simp only [putA, List.foldl_nil, List.append_nil]; exact ⟨h, .refl _⟩
  | cons p ps ih =>
    intro acc h hu hn
    have hp : p ∉ acc := fun hh => by
      have := (List.nodup_append.1 hn).2.2 p hh p (List.mem_cons_self ..)
      exact this rfl
    have e : putT acc p.1 p.2 = insL p acc := putT_new (hu p (List.mem_cons_self ..)) hp
    rw [putA, List.foldl_cons, e, ← putA]
    have pm : (insL p acc ++ ps).Perm (acc ++ p :: ps) := ((ins_perm p acc).append_right ps).trans (List.perm_middle.symm)
    have := ih (insL p acc) (ins_sorted h hp) (fun x hx => hu x (List.mem_cons_of_mem _ hx)) (pm.nodup_iff.2 hn)
    exact ⟨this.1, this.2.trans pm⟩
theorem lkF_inj {x y : F2} (h : lkF x = lkF y) : x = y := by
  simp only [lkF, Prod.mk.injEq] at h
  exact Prod.ext (Fin.ext (by omega)) (Fin.ext (by omega))
theorem sortL_perm {l : List Lk} (h : in64 l) : (sortL l).Perm l := by
  have h1 : (sortF (l.map toF)).Perm (l.map toF) := List.mergeSort_perm _ _
  have h2 := h1.map lkF
  rw [toF_map h] at h2
  exact h2
theorem sortL_sorted {l : List Lk} (h : in64 l) (hn : l.Nodup) : (sortL l).Pairwise ltL := by
  have hs : (sortF (l.map toF)).Pairwise fun x y => (!(ltOf cf64) y x) = true := by
    refine List.pairwise_mergeSort (fun a b c h1 h2 => ?_) (fun a b => ?_) _
    · simp only [Bool.not_eq_true'] at *
      exact swo64.ntrans _ _ _ h2 h1
    · rw [Bool.or_eq_true]
      by_cases e : ltOf cf64 b a = true
      · right
        have : ltOf cf64 a b = false := by rw [nlt64]; rw [lt64] at e; omega
        rw [this]; rfl
      · left; simpa using e
  have hd : (sortL l).Nodup := (sortL_perm h).nodup_iff.2 hn
  have hd2 : (sortF (l.map toF)).Nodup := by
    have := List.pairwise_map.1 hd
    exact this.imp fun hne e => hne (congrArg lkF e)
  refine List.pairwise_map.2 ((List.pairwise_and_iff.2 ⟨hs, hd2⟩).imp fun {a b} ⟨h1, h2⟩ => ?_)
  have h1 : ltOf cf64 b a = false := by simpa using h1
  have h3 : ltOf cf64 a b = true := by
    cases e : ltOf cf64 a b with
    | true => rfl
    | false => exact absurd (tot64 a b e h1) h2
  have := (lt64 a b).1 h3
  unfold ltL lkF
  simp only
  omega
/-- The two ways come to the same. -/
theorem put_sort {ps : List Lk} (h : in64 ps) (hu : ∀ x ∈ ps, upL x) (hn : ps.Nodup) : putA [] ps = sortL ps := by
  have h1 := putA_ok ps [] .nil hu (by simpa using hn)
  exact sorted_one h1.1 (sortL_sorted h hn) (h1.2.trans (by simpa using (sortL_perm h).symm))
end Go.Proofs.Ytphgcgggbbcjgaa

/- What the shapes' pairs are: in range, each once, and every node behind the first one has one ahead of it. -/
namespace Go.Proofs.Ytphgcgggbbcjgaa
open Go.RowKit Go.Dl

/-- Pairs of a network of so many nodes, each once, that join all of them. -/
structure GoodL (n : Nat) (l : List Lk) : Prop where
  rng : ∀ x ∈ l, 0 ≤ x.1 ∧ x.1 < x.2 ∧ x.2 < n
  one : l.Nodup
  low : ∀ v : Nat, 1 ≤ v → v < n → ∃ u : Int, (u, (v : Int)) ∈ l
theorem GoodL.in64 {n : Nat} {l : List Lk} (h : GoodL n l) (hn : n ≤ 16) : in64 l := fun x hx => by have := h.rng x hx; omega
theorem GoodL.up {n : Nat} {l : List Lk} (h : GoodL n l) : ∀ x ∈ l, upL x := fun x hx => (h.rng x hx).2.1
theorem GoodL.perm {n : Nat} {l m : List Lk} (h : GoodL n l) (p : m.Perm l) : GoodL n m :=
  ⟨fun x hx => h.rng x (p.mem_iff.1 hx), p.nodup_iff.2 h.one, fun v h1 h2 => (h.low v h1 h2).imp fun u hu => p.mem_iff.2 hu⟩
theorem GoodL.sort {n : Nat} {l : List Lk} (h : GoodL n l) (hn : n ≤ 16) : GoodL n (sortL l) := h.perm (sortL_perm (h.in64 hn))

theorem good_pre {n : Nat} (hn : 1 ≤ n) {f : Nat → Lk} (h2 : ∀ j : Nat, (f j).2 = (j : Int) + 1) (h1 : ∀ j : Nat, 0 ≤ (f j).1 ∧ (f j).1 ≤ j) : GoodL n (preL f (n - 1)) := by
  refine ⟨fun x hx => ?_, ?_, fun v hv hvn => ?_⟩
  · obtain ⟨j, hj, rfl⟩ := List.mem_map.1 hx
    have := List.mem_range.1 hj
    have := h1 j
    have := h2 j
    omega
  · refine List.pairwise_map.2 (List.nodup_range.imp fun {a b} hne e => hne ?_)
    have e2 := congrArg Prod.snd e
    rw [h2, h2] at e2
    omega
  · refine ⟨(f (v - 1)).1, List.mem_map.2 ⟨v - 1, List.mem_range.2 (by omega), ?_⟩⟩
    refine Prod.ext rfl ?_
    rw [h2]; simp only; omega
theorem good_line {n : Nat} (hn : 1 ≤ n) : GoodL n (preL lineF (n - 1)) := good_pre hn (fun j => rfl) (fun j => by simp only [lineF]; omega)
theorem good_star {n : Nat} (hn : 1 ≤ n) : GoodL n (preL starF (n - 1)) := good_pre hn (fun j => rfl) (fun j => by simp only [starF]; omega)
theorem good_tree {n : Nat} (hn : 1 ≤ n) {k : Int} (hk : 1 ≤ k) : GoodL n (preL (treeF k) (n - 1)) := good_pre hn (fun j => rfl) (fun j => ⟨Int.ediv_nonneg (by omega) (by omega), Int.ediv_le_self _ (by omega)⟩)
theorem good_add {n : Nat} {l : List Lk} {a b : Int} (h : GoodL n l) (h0 : 0 ≤ a) (h1 : a < b) (h2 : b < n) (hx : (a, b) ∉ l) : GoodL n (l ++ [(a, b)]) := by
  refine ⟨fun x hx => ?_, ?_, fun v h1 h2 => (h.low v h1 h2).imp fun u hu => List.mem_append_left _ hu⟩
  · rcases List.mem_append.1 hx with hx | hx
    · exact h.rng x hx
    · rw [List.mem_singleton] at hx; subst hx; exact ⟨h0, h1, h2⟩
  · refine List.nodup_append.2 ⟨h.one, by simp, fun x hx' y hy e => ?_⟩
    rw [List.mem_singleton] at hy
    subst hy; subst e
    exact hx hx'
theorem good_ring {n : Nat} (hn : 1 ≤ n) : GoodL n (ringL n) := by
  unfold ringL
  split
  · refine good_add (good_line hn) (Int.le_refl _) (by omega) (by omega) fun hh => ?_
    obtain ⟨j, hj, e⟩ := List.mem_map.1 hh
    have h1 := congrArg Prod.fst e
    have h2 := congrArg Prod.snd e
    simp only [lineF] at h1 h2
    omega
  · rw [List.append_nil]; exact good_line hn
theorem good_full {n : Nat} (hn : 1 ≤ n) : GoodL n (fullP n n) := by
  have hm : ∀ x ∈ fullP n n, ∃ a i : Nat, a < n ∧ i < n - 1 - a ∧ x = ((a : Int), (a : Int) + 1 + i) := fun x hx => by
    obtain ⟨a, ha, h⟩ := List.mem_flatMap.1 hx
    obtain ⟨i, hi, rfl⟩ := List.mem_map.1 h
    exact ⟨a, i, List.mem_range.1 ha, List.mem_range.1 hi, rfl⟩
  refine ⟨fun x hx => ?_, ?_, fun v hv hvn => ⟨0, ?_⟩⟩
  · obtain ⟨a, i, ha, hi, rfl⟩ := hm x hx
    simp only; omega
  · have key : ∀ m, (fullP n m).Pairwise ltL := fun m => by
      induction m with
      | zero => exact .nil
      | succ m ih =>
        have e : fullP n (m + 1) = fullP n m ++ fullR m (n - 1 - m) := by rw [← full_next, fullI]
        rw [e]
        refine List.pairwise_append.2 ⟨ih, ?_, fun x hx y hy => ?_⟩
        · refine List.pairwise_map.2 (List.pairwise_lt_range.imp fun {a b} h => .inr ⟨rfl, ?_⟩)
          simp only; omega
        · obtain ⟨a, ha, h⟩ := List.mem_flatMap.1 hx
          obtain ⟨i, hi, rfl⟩ := List.mem_map.1 h
          obtain ⟨j, hj, rfl⟩ := List.mem_map.1 hy
          have := List.mem_range.1 ha
          unfold ltL; simp only; omega
    exact nodup_of_sorted (key n)
  · refine List.mem_flatMap.2 ⟨0, List.mem_range.2 (by omega), List.mem_map.2 ⟨v - 1, List.mem_range.2 (by omega), ?_⟩⟩
    refine Prod.ext rfl ?_
    simp only; omega
theorem good_grid {n : Nat} (hn : 1 ≤ n) {k : Int} (hk : 1 ≤ k) : GoodL n (gridP n k n) := by
  refine ⟨fun x hx => ?_, ?_, fun v hv hvn => ?_⟩
  · obtain ⟨i, hi, h⟩ := List.mem_flatMap.1 hx
    rw [List.mem_range] at hi
    rcases List.mem_append.1 h with h | h
    · unfold gridA at h
      split at h
      · rw [List.mem_singleton] at h; subst h; simp only; omega
      · cases h
    · unfold gridB at h
      split at h
      · rw [List.mem_singleton] at h; subst h; simp only; omega
      · cases h
  · have key : ∀ m, (gridP n k m).Pairwise ltL ∧ ∀ x ∈ gridP n k m, x.1 < m := fun m => by
      induction m with
      | zero => exact ⟨.nil, fun x hx => by cases hx⟩
      | succ m ih =>
        rw [grid_next]
        have hA : ∀ x ∈ gridA n k m, x = ((m : Int), (m : Int) + 1) ∧ ((m : Int) + 1) % k ≠ 0 := fun x hx => by
          unfold gridA at hx
          split at hx
          · rename_i hc
            rw [List.mem_singleton] at hx; exact ⟨hx, hc.2⟩
          · cases hx
        have hB : ∀ x ∈ gridB n k m, x = ((m : Int), (m : Int) + k) := fun x hx => by
          unfold gridB at hx
          split at hx
          · rw [List.mem_singleton] at hx; exact hx
          · cases hx
        have hAB : ∀ x ∈ gridA n k m ++ gridB n k m, x.1 = m := fun x hx => by
          rcases List.mem_append.1 hx with h | h
          · rw [(hA x h).1]
          · rw [hB x h]
        refine ⟨List.pairwise_append.2 ⟨ih.1, List.pairwise_append.2 ⟨?_, ?_, fun x hx y hy => ?_⟩, fun x hx y hy => ?_⟩, fun x hx => ?_⟩
        · unfold gridA; split
          · exact List.pairwise_singleton _ _
          · exact .nil
        · unfold gridB; split
          · exact List.pairwise_singleton _ _
          · exact .nil
        · have h1 := hA x hx
          rw [h1.1, hB y hy]
          have h3 : k ≠ 1 := fun e => by rw [e, Int.emod_one] at h1; exact h1.2 rfl
          exact .inr ⟨rfl, by simp only; omega⟩
        · have h1 := ih.2 x hx
          have h2 := hAB y hy
          unfold ltL; omega
        · rcases List.mem_append.1 hx with h | h
          · have := ih.2 x h; omega
          · have := hAB x h; omega
    exact nodup_of_sorted (key n).1
  · by_cases h : (v : Int) % k = 0
    · have hge : k ≤ v := by
        rcases Int.lt_or_le (v : Int) k with h1 | h1
        · rw [Int.emod_eq_of_lt (by omega) h1] at h; omega
        · exact h1
      obtain ⟨m, rfl⟩ := Int.eq_ofNat_of_zero_le (show 0 ≤ k by omega)
      refine ⟨((v - m : Nat) : Int), List.mem_flatMap.2 ⟨v - m, List.mem_range.2 (by omega), List.mem_append_right _ ?_⟩⟩
      unfold gridB
      rw [if_pos (by omega), List.mem_singleton]
      refine Prod.ext rfl ?_
      simp only; omega
    · refine ⟨((v - 1 : Nat) : Int), List.mem_flatMap.2 ⟨v - 1, List.mem_range.2 (by omega), List.mem_append_left _ ?_⟩⟩
      unfold gridA
      have e : ((v - 1 : Nat) : Int) + 1 = v := by omega
      rw [e, if_pos ⟨by omega, h⟩, List.mem_singleton]

theorem count_next (l : List Lk) (m : Nat) : l.countP (fun x => decide (x.2 < ((m + 1 : Nat) : Int))) = l.countP (fun x => decide (x.2 < (m : Int))) + l.countP (fun x => decide (x.2 = (m : Int))) := by
  induction l with
  | nil => rfl
  | cons x l ih2 =>
    have h5 : (decide (x.2 < ((m + 1 : Nat) : Int))).toNat = (decide (x.2 < (m : Int))).toNat + (decide (x.2 = (m : Int))).toNat := by
      by_cases h1 : x.2 < (m : Int)
      · rw [decide_eq_true h1, decide_eq_true (show x.2 < ((m + 1 : Nat) : Int) by omega), decide_eq_false (show ¬ x.2 = (m : Int) by omega)]; rfl
      · by_cases h2 : x.2 = (m : Int)
        · rw [decide_eq_false h1, decide_eq_true (show x.2 < ((m + 1 : Nat) : Int) by omega), decide_eq_true h2]; rfl
        · rw [decide_eq_false h1, decide_eq_false (show ¬ x.2 < ((m + 1 : Nat) : Int) by omega), decide_eq_false h2]; rfl
    have h6 : ∀ b : Bool, (if b = true then 1 else 0) = b.toNat := fun b => by cases b <;> rfl
    rw [List.countP_cons, List.countP_cons, List.countP_cons, ih2]
    simp only [h6]
    omega
/-- Each node behind the first one is a greater end. -/
theorem good_len {n : Nat} {l : List Lk} (h : GoodL n l) : n - 1 ≤ l.length := by
  have key : ∀ m : Nat, m ≤ n → m - 1 ≤ l.countP (fun x => decide (x.2 < (m : Int))) := fun m => by
    induction m with
    | zero => intro _; omega
    | succ m ih =>
      intro hm
      have ih := ih (by omega)
      have e : l.countP (fun x => decide (x.2 < ((m + 1 : Nat) : Int))) = l.countP (fun x => decide (x.2 < (m : Int))) + l.countP (fun x => decide (x.2 = (m : Int))) := count_next l m
      by_cases hm0 : m = 0
      · omega
      · obtain ⟨u, hu⟩ := h.low m (by omega) (by omega)
        have : 0 < l.countP (fun x => decide (x.2 = (m : Int))) := List.countP_pos_iff.2 ⟨_, hu, by simp⟩
        omega
  have := key n (Nat.le_refl _)
  exact Nat.le_trans this List.countP_le_length
theorem full_count {n : Nat} (hn : n ≤ 16) : ((fullP n n).length : Int) = n * (n - 1) / 2 := by
  have : ∀ m : Fin 17, ((fullP m.val m.val).length : Int) = (m.val : Int) * ((m.val : Int) - 1) / 2 := by decide +kernel
  exact this ⟨n, by omega⟩
theorem good_inN {n : Nat} {l : List Lk} (h : GoodL n l) : inN n l := fun i hi => by
  have e : l.getD i lk0 ∈ l := by rw [List.getD_eq_getElem?_getD, List.getElem?_eq_getElem hi]; exact List.getElem_mem hi
  have := h.rng _ e
  omega
theorem good_walk {n : Nat} {l : List Lk} (h : GoodL n l) : ∀ v : Nat, v < n → ∃ k, WalkL l k v 0 := fun v => by
  induction v using Nat.strongRecOn with
  | ind v ih =>
    intro hv
    by_cases h0 : v = 0
    · exact ⟨0, h0⟩
    · obtain ⟨u, hu⟩ := h.low v (by omega) hv
      have hr := h.rng _ hu
      simp only at hr
      obtain ⟨k, hk⟩ := ih u.toNat (by omega) (by omega)
      exact ⟨k + 1, WalkL.head ⟨_, hu, .inr ⟨by simp, rfl⟩⟩ hk⟩
/-- All are joined with the first one. -/
theorem good_parts {n : Nat} {l : List Lk} (h : GoodL n l) {v : Nat} (hv : v < n) : (partsT n l).getD v 0 = 0 := by
  have hl := good_inN h
  obtain ⟨w, w1, w2, w3, w4⟩ := ls_least (p := fun i => joinB n l v i) (x := v) hv ((join_walk hl hv hv).2 ⟨0, rfl⟩)
  rw [parts_get hv, w2]
  have h0 : joinB n l v 0 = true := (join_walk hl hv (show 0 < n by omega)).2 (good_walk h v hv)
  rcases Nat.eq_zero_or_pos w with e | e
  · rw [e]; rfl
  · have := w4 0 e
    rw [h0] at this; cases this
/-- What is sorted is fit. -/
theorem good_fit {n : Nat} {l : List Lk} (hn : 1 ≤ n ∧ n ≤ 16) (h : GoodL n l) (hs : l.Pairwise ltL) (hd : degOk n l = true) : fitB n l = true := by
  refine fitB_iff.2 ⟨by omega, by omega, fun i hi => okL_iff.2 ?_, fun v hv => degOk_iff.1 hd v (by omega)⟩
  have e : l.getD i lk0 = l[i] := by rw [List.getD_eq_getElem?_getD, List.getElem?_eq_getElem hi]; rfl
  have hr := h.rng l[i] (List.getElem_mem hi)
  rw [e]
  refine ⟨hr.1, hr.2.1, hr.2.2, ?_⟩
  by_cases h0 : i = 0
  · exact .inl h0
  · right
    have e2 : l.getD (i - 1) lk0 = l[i - 1] := by rw [List.getD_eq_getElem?_getD, List.getElem?_eq_getElem (show i - 1 < l.length by omega)]; rfl
    have := List.pairwise_iff_getElem.1 hs (i - 1) i (by omega) hi (by omega)
    rw [e2]
    unfold lexB
    unfold ltL at this
    rcases this with h | h <;> simp [h]
end Go.Proofs.Ytphgcgggbbcjgaa

/- The numbers of a seed. -/
namespace Go.Proofs.Ytphgcgggbbcjgaa
open Go.RowKit Go.Dl
attribute [local irreducible] Tri SCall DFun QSem PCall GCall MCall Round Weak dloadE OW DWl Tells IntKind.wrap Retold ESem

def u64 (x : Int) : DV := .v (.int .u64 x)
def stepU (x : Int) : Int := IntKind.u64.wrap (IntKind.u64.wrap (x * 6364136223846793005) + 1442695040888963407)
def stepsU (x : Int) : Nat → Int
  | 0 => x
  | j + 1 => stepU (stepsU x j)
theorem step33_D (x : Int) : DPure Try.prog 33 [u64 x] (u64 (stepU x)) := by
  refine DFun.data (DFun.body Try.func33 rfl (by kernel_rfl) ?_)
  repeat' (first | with_reducible rfl | ((conv => whnf); first | refine And.intro ?_ ?_ | (intro h; first | exact Bool.noConfusion h | with_reducible exact h | (have ht : true = true := h; clear ht h) | skip) | ((with_reducible refine DWl.mark ?_); repeat' (first | refine DWl.cons ?_ ?_ | exact DWl.nil | exact DW.same _ rfl | exact DW.ref _ _ _ rfl | exact DW.arr _ _ _ rfl | exact DW.sub _ _ _ _ rfl | exact DW.nilLst _ | refine DW.aggl ?_ | refine DW.tupl ?_ | refine DW.clol ?_ ?_ | refine DW.int ?_ | refine DW.bool ?_ | refine DW.str ?_)) | refine dcell_ok rfl ?_ | refine AppC.new ?_))
  all_goals first | (with_reducible refine enters_mark ?_; kernel_rfl) | (with_reducible refine boolT_mark ?_; kernel_rfl) | rfl | trivial | assumption | exact Nat.le_of_ble_eq_true rfl | (show entersB _ _ = true; kernel_rfl) | exact DW.same _ rfl | exact DW.ref _ _ _ rfl | exact DW.arr _ _ _ rfl | refine DW.int ?_ | refine dvb ?_ | refine dvi ?_ | exact OW.cells rfl rfl (DWl.same rfl) | exact Nat.zero_le _ | omega | skip
  all_goals repeat' (first | refine OW.cells rfl rfl ?_ | exact DW.nilArr _ rfl | refine DWl.cons ?_ ?_ | exact DWl.nil | exact DW.same _ rfl | exact DW.ref _ _ _ rfl | exact DW.arr _ _ _ rfl | exact DW.sub _ _ _ _ rfl | exact DW.nilLst _ | refine DW.aggl ?_ | refine DW.tupl ?_ | refine DW.clol ?_ ?_)
  all_goals try ((conv => whnf); with_reducible first | refine Round.mark ?_ | refine Tells.mark ?_ | refine Retold.mark ?_)
  all_goals try first | (show (_ : Bool) = _; simp_all; done) | (show (_ : Int) < _; simp at *; omega) | (show (_ : Int) ≤ _; simp at *; omega) | (show (_ : Nat) < _; simp at *; omega) | (show (_ : Nat) ≤ _; simp at *; omega)
  conv => whnf
  exact Tells.mk (DW.int (by rfl))
def randK (x k : Int) : Int := if k < 1 ∨ 100000 < k then 0 else stepsU x k.toNat / 8589934592
def st12 (x : Int) (k i : Nat) : St := ⟨0, tmOf [(1, int1 k), (5, u64 (stepsU x i)), (6, int1 i)], .of [] 0⟩
theorem randK_no {x k : Int} (h : (bif decide (k < 1) then true else decide (100000 < k)) = true) : 0 = randK x k := by
  unfold randK
  by_cases h1 : k < 1
  · rw [if_pos (.inl h1)]
  · rw [if_pos (.inr (by simpa [h1] using h))]
theorem randK_in {k : Int} (h : (bif decide (k < 1) then true else decide (100000 < k)) = false) : 1 ≤ k ∧ k ≤ 100000 := by
  by_cases h1 : k < 1
  · simp [h1] at h
  · simp [h1] at h; omega
theorem shrU (v : Int) : v.fdiv (2 ^ min (Int.toNat 33) IntKind.u64.bits) = v / 8589934592 := by
  rw [show (2 : Int) ^ min (Int.toNat 33) IntKind.u64.bits = 8589934592 from rfl, Int.fdiv_eq_ediv_of_nonneg _ (by decide)]
theorem randK_end {x k : Int} (h : 1 ≤ k ∧ k ≤ 100000) : (stepsU x k.toNat).fdiv (2 ^ min (Int.toNat 33) IntKind.u64.bits) = randK x k := by
  rw [shrU, randK, if_neg (by omega)]
theorem randK_end2 {x : Int} {n j : Nat} (hn : n ≤ 100000) (hj : j + 1 = n) : (IntKind.u64.wrap (IntKind.u64.wrap (stepsU x j * 6364136223846793005) + 1442695040888963407)).fdiv (2 ^ min (Int.toNat 33) IntKind.u64.bits) = randK x n := by
  have := randK_end (x := x) (k := n) (by omega)
  rw [← this, ← hj]; rfl
theorem stepsU_next (x : Int) (j : Nat) : IntKind.u64.wrap (IntKind.u64.wrap (stepsU x j * 6364136223846793005) + 1442695040888963407) = stepsU x (j + 1) := rfl
attribute [local irreducible] stepU
theorem rand12_D (x k : Int) : DPure Try.prog 12 [u64 x, int1 k] (u64 (randK x k)) := by
  refine DFun.data (DFun.body Try.func12 rfl (by kernel_rfl) ?_)
  repeat' (first | with_reducible rfl | ((conv => whnf); first | refine And.intro ?_ ?_ | (intro h; first | exact Bool.noConfusion h | with_reducible exact h | (have ht : true = true := h; clear ht h) | skip) | ((with_reducible refine DWl.mark ?_); repeat' (first | refine DWl.cons ?_ ?_ | exact DWl.nil | exact DW.same _ rfl | exact DW.ref _ _ _ rfl | exact DW.arr _ _ _ rfl | exact DW.sub _ _ _ _ rfl | exact DW.nilLst _ | refine DW.aggl ?_ | refine DW.tupl ?_ | refine DW.clol ?_ ?_ | refine DW.int ?_ | refine DW.bool ?_ | refine DW.str ?_)) | ((with_reducible refine SCall.mark ?_); first | refine SCall.data (step33_D _) rfl rfl ?_ | refine SCall.scal (step33_D _) rfl rfl ?_) | ((with_reducible refine PCall.mark ?_); first | refine PCall.mk (step33_D _) rfl rfl ?_) | ((with_reducible refine GCall.mark ?_); first | refine GCall.data (fun _ => step33_D _) rfl rfl ?_ | refine GCall.scal (fun _ => step33_D _) rfl rfl ?_) | ((with_reducible refine MCall.mark ?_); first | refine MCall.data (fun _ => step33_D _) rfl rfl ?_ | refine MCall.plain (PCall.mk (step33_D _) rfl rfl ?_)) | ((with_reducible refine Tri.mark ?_); first | refine Tri.loop (st12 x k.toNat) (fun i => i ≤ k.toNat) (fun i => k.toNat - i) (0) (by kernel_rfl) (Weak.list [] [] ?_ ?_ ?_) ?_ ?_) | ((with_reducible refine Round.mark ?_); first | refine Round.go ((· + 1)) ?_ ?_ (Weak.list [] [] ?_ ?_ ?_)) | refine dcell_ok rfl ?_ | refine AppC.new ?_))
  all_goals first | (with_reducible refine enters_mark ?_; kernel_rfl) | (with_reducible refine boolT_mark ?_; kernel_rfl) | rfl | trivial | assumption | exact Nat.le_of_ble_eq_true rfl | (show entersB _ _ = true; kernel_rfl) | exact DW.same _ rfl | exact DW.ref _ _ _ rfl | exact DW.arr _ _ _ rfl | refine DW.int ?_ | refine dvb ?_ | refine dvi ?_ | exact OW.cells rfl rfl (DWl.same rfl) | exact Nat.zero_le _ | omega | skip
  all_goals repeat' (first | refine OW.cells rfl rfl ?_ | exact DW.nilArr _ rfl | refine DWl.cons ?_ ?_ | exact DWl.nil | exact DW.same _ rfl | exact DW.ref _ _ _ rfl | exact DW.arr _ _ _ rfl | exact DW.sub _ _ _ _ rfl | exact DW.nilLst _ | refine DW.aggl ?_ | refine DW.tupl ?_ | refine DW.clol ?_ ?_)
  all_goals try ((conv => whnf); with_reducible first | refine Round.mark ?_ | refine Tells.mark ?_ | refine Retold.mark ?_)
  all_goals try first | (show (_ : Bool) = _; simp_all; done) | (show (_ : Int) < _; simp at *; omega) | (show (_ : Int) ≤ _; simp at *; omega) | (show (_ : Nat) < _; simp at *; omega) | (show (_ : Nat) ≤ _; simp at *; omega)
  · conv => whnf
    exact Tells.mk (DW.int (randK_no h))
  · have := randK_in h; omega
  · rename_i e0 i hi
    have := randK_in e0
    exact wsucc (lt_int h) (by omega)
  · rename_i e0 i hi
    have := randK_in e0
    have e : i = k.toNat := by have := ge_int h; omega
    subst e
    conv => whnf
    exact Tells.mk (DW.int (randK_end this))
def st11 (x : Int) (k : Nat) (lb j : Nat) : St := ⟨⟨4, [.normal]⟩, tmOf [(0, .clo (.yield lb) [] []), (3, u64 (stepsU x j))], .of [(0, ⟨3, 1, [int1 k]⟩), (1, ⟨22, 1, [u64 0]⟩), (2, ⟨3, 1, [int1 j]⟩), (3, ⟨22, 1, [u64 x]⟩)] 4⟩
set_option maxRecDepth 100000 in
set_option maxHeartbeats 1000000 in
theorem rand11_D (x k : Int) : DPure Try.prog 11 [u64 x, int1 k] (u64 (randK x k)) := by
  refine DFun.data (DFun.body Try.func11 rfl (by kernel_rfl) ?_)
  repeat' (first | with_reducible rfl | ((conv => whnf); first | refine And.intro ?_ ?_ | (intro h; first | exact Bool.noConfusion h | with_reducible exact h | (have ht : true = true := h; clear ht h) | skip) | ((with_reducible refine DWl.mark ?_); repeat' (first | refine DWl.cons ?_ ?_ | exact DWl.nil | exact DW.same _ rfl | exact DW.ref _ _ _ rfl | exact DW.arr _ _ _ rfl | exact DW.sub _ _ _ _ rfl | exact DW.nilLst _ | refine DW.aggl ?_ | refine DW.tupl ?_ | refine DW.clol ?_ ?_ | refine DW.int ?_ | refine DW.bool ?_ | refine DW.str ?_)) | ((with_reducible refine SCall.mark ?_); first | refine SCall.run Try.func32 rfl (Nat.le_of_ble_eq_true rfl) (by kernel_rfl) ?_) | refine dcell_ok rfl ?_ | refine AppC.new ?_))
  all_goals first | (with_reducible refine enters_mark ?_; kernel_rfl) | (with_reducible refine boolT_mark ?_; kernel_rfl) | rfl | trivial | assumption | exact Nat.le_of_ble_eq_true rfl | (show entersB _ _ = true; kernel_rfl) | exact DW.same _ rfl | exact DW.ref _ _ _ rfl | exact DW.arr _ _ _ rfl | refine DW.int ?_ | refine dvb ?_ | refine dvi ?_ | exact OW.cells rfl rfl (DWl.same rfl) | exact Nat.zero_le _ | omega | skip
  all_goals repeat' (first | refine OW.cells rfl rfl ?_ | exact DW.nilArr _ rfl | refine DWl.cons ?_ ?_ | exact DWl.nil | exact DW.same _ rfl | exact DW.ref _ _ _ rfl | exact DW.arr _ _ _ rfl | exact DW.sub _ _ _ _ rfl | exact DW.nilLst _ | refine DW.aggl ?_ | refine DW.tupl ?_ | refine DW.clol ?_ ?_)
  all_goals try ((conv => whnf); with_reducible first | refine Round.mark ?_ | refine Tells.mark ?_ | refine Retold.mark ?_)
  all_goals try first | (show (_ : Bool) = _; simp_all; done) | (show (_ : Int) < _; simp at *; omega) | (show (_ : Int) ≤ _; simp at *; omega) | (show (_ : Nat) < _; simp at *; omega) | (show (_ : Nat) ≤ _; simp at *; omega)
  · conv => whnf
    exact Tells.mk (DW.int (randK_no h))
  have hk := randK_in h
  obtain ⟨n, rfl⟩ := Int.eq_ofNat_of_zero_le (show 0 ≤ k by omega)
  conv => whnf
  refine Tri.range rfl (by kernel_rfl) rfl rfl (by rfl) (by kernel_rfl) fun lb => ?_
  repeat' (first | with_reducible rfl | ((conv => whnf); first | refine And.intro ?_ ?_ | (intro h; first | exact Bool.noConfusion h | with_reducible exact h | (have ht : true = true := h; clear ht h) | skip) | ((with_reducible refine DWl.mark ?_); repeat' (first | refine DWl.cons ?_ ?_ | exact DWl.nil | exact DW.same _ rfl | exact DW.ref _ _ _ rfl | exact DW.arr _ _ _ rfl | exact DW.sub _ _ _ _ rfl | exact DW.nilLst _ | refine DW.aggl ?_ | refine DW.tupl ?_ | refine DW.clol ?_ ?_ | refine DW.int ?_ | refine DW.bool ?_ | refine DW.str ?_)) | ((with_reducible refine Tri.mark ?_); first | refine Tri.loop (st11 x n lb) (fun j => j + 1 ≤ n) (fun j => n - j) 0 (by kernel_rfl) (Weak.list [] [] (by kernel_rfl) ?_ ?_) ?_ ?_) | refine dcell_ok rfl ?_ | refine AppC.new ?_))
  all_goals first | (with_reducible refine enters_mark ?_; kernel_rfl) | (with_reducible refine boolT_mark ?_; kernel_rfl) | rfl | trivial | assumption | exact Nat.le_of_ble_eq_true rfl | (show entersB _ _ = true; kernel_rfl) | exact DW.same _ rfl | exact DW.ref _ _ _ rfl | exact DW.arr _ _ _ rfl | refine DW.int ?_ | refine dvb ?_ | refine dvi ?_ | exact OW.cells rfl rfl (DWl.same rfl) | exact Nat.zero_le _ | omega | skip
  all_goals repeat' (first | refine OW.cells rfl rfl ?_ | exact DW.nilArr _ rfl | refine DWl.cons ?_ ?_ | exact DWl.nil | exact DW.same _ rfl | exact DW.ref _ _ _ rfl | exact DW.arr _ _ _ rfl | exact DW.sub _ _ _ _ rfl | exact DW.nilLst _ | refine DW.aggl ?_ | refine DW.tupl ?_ | refine DW.clol ?_ ?_)
  all_goals try ((conv => whnf); with_reducible first | refine Round.mark ?_ | refine Tells.mark ?_ | refine Retold.mark ?_)
  all_goals try first | (show (_ : Bool) = _; simp_all; done) | (show (_ : Int) < _; simp at *; omega) | (show (_ : Int) ≤ _; simp at *; omega) | (show (_ : Nat) < _; simp at *; omega) | (show (_ : Nat) ≤ _; simp at *; omega)
  · rename_i j hj
    conv => whnf
    have e : j + 1 = n := by
      rw [wrapI (by omega) (by omega)] at h
      have := eq_of_beq h
      omega
    exact Tells.mk (DW.int (randK_end2 (by omega) e))
  · rename_i j hj e1
    have e : j + 1 ≠ n := fun e => by
      rw [wrapI (by omega) (by omega)] at e1
      simp at e1; omega
    refine Round.go (· + 1) (by omega) (by show n - (j + 1) < n - j; omega) (Weak.list [] [] (by kernel_rfl) ?_ ?_)
    · repeat' (first | exact wsucc (n := n) hj (by omega) | exact stepsU_next _ _ | exact DW.same _ rfl | exact DW.ref _ _ _ rfl | exact DW.arr _ _ _ rfl | exact OW.cells rfl rfl (DWl.same rfl) | refine OW.cells rfl rfl ?_ | refine DWl.cons ?_ ?_ | exact DWl.nil | exact DW.nilArr _ rfl | exact DW.nilLst _ | refine DW.clol ?_ ?_ | refine DW.aggl ?_ | refine DW.tupl ?_ | refine DW.int ?_ | refine DW.bool ?_ | refine DW.str ?_ | refine DW.arrE rfl ?_ | ((conv => whnf); first | refine And.intro ?_ ?_ | trivial))
    · repeat' (first | exact wsucc (n := n) hj (by omega) | exact stepsU_next _ _ | exact DW.same _ rfl | exact DW.ref _ _ _ rfl | exact DW.arr _ _ _ rfl | exact OW.cells rfl rfl (DWl.same rfl) | refine OW.cells rfl rfl ?_ | refine DWl.cons ?_ ?_ | exact DWl.nil | exact DW.nilArr _ rfl | exact DW.nilLst _ | refine DW.clol ?_ ?_ | refine DW.aggl ?_ | refine DW.tupl ?_ | refine DW.int ?_ | refine DW.bool ?_ | refine DW.str ?_ | refine DW.arrE rfl ?_ | ((conv => whnf); first | refine And.intro ?_ ?_ | trivial))
end Go.Proofs.Ytphgcgggbbcjgaa

/- Pairs by chance: the program's and the document's are the same. -/
namespace Go.Proofs.Ytphgcgggbbcjgaa
open Go.RowKit Go.Dl

def nodeU (n : Nat) (x : Int) : Int := (x / 8589934592) % n
def pairU (a b : Int) : Lk := putX a b
def skipU (l : List Lk) (a b : Int) : Bool := a == b || decide (pairU a b ∈ l) || decide (6 ≤ degT l a) || decide (6 ≤ degT l b)
/-- One round of the program's. -/
def rndP1 (n : Nat) (s : Int × List Lk) : Int × List Lk :=
  (stepU (stepU s.1), if skipU s.2 (nodeU n (stepU s.1)) (nodeU n (stepU (stepU s.1))) = true then s.2 else s.2 ++ [pairU (nodeU n (stepU s.1)) (nodeU n (stepU (stepU s.1)))])
def rndP (n : Nat) (k : Int) : Nat → Int × List Lk
  | 0 => (IntKind.u64.wrap k, preL lineF (n - 1))
  | i + 1 => rndP1 n (rndP n k i)
def roomU (l : List Lk) (a b : Int) : Bool := decide (degT l a < 6) && decide (degT l b < 6)
/-- One round of the document's. -/
def rndD1 (n : Nat) (s : Int × List Lk) : Int × List Lk :=
  (stepU (stepU s.1), if roomU s.2 (nodeU n (stepU s.1)) (nodeU n (stepU (stepU s.1))) = true then putT s.2 (nodeU n (stepU s.1)) (nodeU n (stepU (stepU s.1))) else s.2)
def rndD (n : Nat) (k : Int) (l0 : List Lk) : Nat → Int × List Lk
  | 0 => (IntKind.u64.wrap k, l0)
  | i + 1 => rndD1 n (rndD n k l0 i)
theorem nodeU_rng {n : Nat} (hn : 1 ≤ n) (x : Int) : 0 ≤ nodeU n x ∧ nodeU n x < n := ⟨Int.emod_nonneg _ (by omega), Int.emod_lt_of_pos _ (by omega)⟩
theorem putX_lt {a b : Int} (h : a ≠ b) : (putX a b).1 < (putX a b).2 := by
  unfold putX
  by_cases h1 : b < a
  · rw [if_pos h1, if_neg (by omega)]; exact h1
  · rw [if_neg h1, if_pos (by omega)]; simp only; omega
theorem putX_in {n : Nat} {a b : Int} (h1 : 0 ≤ a ∧ a < n) (h2 : 0 ≤ b ∧ b < n) : 0 ≤ (putX a b).1 ∧ (putX a b).2 < n := by
  unfold putX
  constructor <;> (simp only; split <;> omega)
theorem putT_eq {l : List Lk} {a b : Int} (h : a ≠ b) (hx : putX a b ∉ l) : putT l a b = insL (putX a b) l := by
  unfold putT
  have : (a == b) = false := by simpa using h
  rw [this, if_neg (by simpa using hx), putL_ins]
theorem putT_old {l : List Lk} {a b : Int} (h : a = b ∨ putX a b ∈ l) : putT l a b = l := by
  unfold putT
  rw [if_pos]
  rcases h with h | h
  · simp [h]
  · by_cases e : a = b
    · simp [e]
    · have : (a == b) = false := by simpa using e
      rw [this]; simpa using h
theorem rnd_same {n : Nat} (hn : 1 ≤ n) (k : Int) : ∀ i, (rndP n k i).1 = (rndD n k (putA [] (preL lineF (n - 1))) i).1 ∧ (rndD n k (putA [] (preL lineF (n - 1))) i).2.Perm (rndP n k i).2 ∧ (rndD n k (putA [] (preL lineF (n - 1))) i).2.Pairwise ltL ∧ GoodL n (rndP n k i).2 := fun i => by
  induction i with
  | zero =>
    have g := good_line hn
    have h1 := putA_ok (preL lineF (n - 1)) [] .nil g.up (by simpa using g.one)
    exact ⟨rfl, by simpa [rndD, rndP] using h1.2, h1.1, g⟩
  | succ i ih =>
    obtain ⟨i1, i2, i3, i4⟩ := ih
    rw [rndP, rndD]
    generalize rndP n k i = p at *
    generalize rndD n k (putA [] (preL lineF (n - 1))) i = d at *
    obtain ⟨x, lp⟩ := p
    obtain ⟨y, ld⟩ := d
    simp only at i1 i2 i3 i4
    subst i1
    unfold rndP1 rndD1
    simp only
    have ra := nodeU_rng hn (stepU x)
    have rb := nodeU_rng hn (stepU (stepU x))
    generalize nodeU n (stepU x) = a at *
    generalize nodeU n (stepU (stepU x)) = b at *
    refine ⟨trivial, ?_⟩
    have da := deg_perm i2 a
    have db := deg_perm i2 b
    by_cases hr : degT lp a < 6 ∧ degT lp b < 6
    · have e1 : roomU ld a b = true := by unfold roomU; rw [da, db]; simpa using hr
      rw [if_pos e1]
      by_cases hs : a = b ∨ putX a b ∈ lp
      · have e2 : skipU lp a b = true := by
          unfold skipU pairU
          rcases hs with h | h <;> simp [h]
        rw [if_pos e2, putT_old (hs.imp id fun h => i2.mem_iff.2 h)]
        exact ⟨i2, i3, i4⟩
      · have hs1 : a ≠ b := fun e => hs (.inl e)
        have hs2 : putX a b ∉ lp := fun e => hs (.inr e)
        have e2 : ¬ skipU lp a b = true := by
          unfold skipU pairU
          simp [hs1, hs2]; omega
        have hs3 : putX a b ∉ ld := fun e => hs2 (i2.mem_iff.1 e)
        rw [if_neg e2, putT_eq hs1 hs3]
        refine ⟨(ins_perm _ _).trans ((i2.cons _).trans (List.perm_append_singleton _ _).symm), ins_sorted i3 hs3, ?_⟩
        have h5 := putX_in ra rb
        exact good_add i4 h5.1 (putX_lt hs1) h5.2 hs2
    · have e1 : ¬ roomU ld a b = true := by unfold roomU; rw [da, db]; simpa using hr
      have e2 : skipU lp a b = true := by
        unfold skipU
        simp only [Bool.or_eq_true, decide_eq_true_eq, beq_iff_eq]
        omega
      rw [if_neg e1, if_pos e2]
      exact ⟨i2, i3, i4⟩
theorem good_rnd {n : Nat} (hn : 1 ≤ n) (k : Int) (i : Nat) : GoodL n (rndP n k i).2 := (rnd_same hn k i).2.2.2
theorem rnd_sort {n : Nat} (hn : 1 ≤ n ∧ n ≤ 16) (k : Int) (i : Nat) : (rndD n k (putA [] (preL lineF (n - 1))) i).2 = sortL (rndP n k i).2 := by
  obtain ⟨_, h2, h3, h4⟩ := rnd_same hn.1 k i
  exact sorted_one h3 (sortL_sorted (h4.in64 hn.2) h4.one) (h2.trans (sortL_perm (h4.in64 hn.2)).symm)
end Go.Proofs.Ytphgcgggbbcjgaa

/- The document's shapes. -/
namespace Go.Proofs.Ytphgcgggbbcjgaa
open Go.RowKit Go.Dl
attribute [local irreducible] Tri SCall DFun QSem PCall GCall MCall Round Weak dloadE OW DWl Tells IntKind.wrap Retold ESem

theorem putL_len (x : Lk) (l : List Lk) : (putL x l).length ≤ l.length + 1 := by
  rw [putL_ins, (ins_perm x l).length_eq]; simp
theorem putT_len (l : List Lk) (a b : Int) : (putT l a b).length ≤ l.length + 1 := by
  unfold putT
  split
  · omega
  · exact putL_len _ _
theorem putA_len (ps : List Lk) : ∀ acc, (putA acc ps).length ≤ acc.length + ps.length := by
  induction ps with
  | nil => intro acc; simp [putA]
  | cons p ps ih =>
    intro acc
    have h1 := ih (putT acc p.1 p.2)
    have h2 := putT_len acc p.1 p.2
    simp only [putA, List.foldl_cons, List.length_cons] at *; omega
theorem putA_append (acc ps qs : List Lk) : putA acc (ps ++ qs) = putA (putA acc ps) qs := by simp [putA]
theorem putA_one (acc : List Lk) (x : Lk) : putA acc [x] = putT acc x.1 x.2 := rfl
theorem putA_nil (acc : List Lk) : putA acc [] = acc := rfl
theorem put_step {ps ps' : List Lk} {a b : Int} (h : ps' = ps ++ [(a, b)]) : putT (putA [] ps) a b = putA [] ps' := by
  rw [h, putA_append, putA_one]
theorem doc_step {f : Nat → Lk} {j : Nat} {a b : Int} (h : (a, b) = f j) : (putT (putA [] (preL f j)) a b).map linkD = (putA [] (preL f (j + 1))).map linkD := by
  rw [pre_succ, ← h, put_step rfl]
theorem doc_len {f : Nat → Lk} {j n : Nat} (hj : j ≤ n) (hn : n ≤ 16) : (putA [] (preL f j)).length ≤ 1000 := by
  have := putA_len (preL f j) []
  rw [pre_len] at this
  simp only [List.length_nil] at this; omega
theorem _root_.Go.Dl.DW.nilLks {ρ : Nat → Option Nat} {s : Sto} {pub : Nat → Prop} {l : List Lk} (h : l = []) : DW ρ s pub (.v (.slice none 0 0)) (links l) := by subst h; exact .nilLst _
theorem doc_zero (f : Nat → Lk) : putA [] (preL f 0) = [] := rfl
def lineSt (n i : Nat) : St := ⟨0, tmOf [(0, int1 n), (3, links (putA [] (preL lineF i))), (4, int1 i)], .of [] 0⟩
attribute [local irreducible] putA preL putT
theorem line_i {n i : Nat} (hi : i + 1 ≤ n) (hn : n ≤ 16) (h : decide (IntKind.i64.wrap ((i : Int) + 1) < (n : Int)) = true) : i + 1 < n := by
  rw [wrapI (by omega) (by omega)] at h
  have := of_decide_eq_true h
  omega
theorem line_o {n i : Nat} (hi : i + 1 ≤ n) (hn : n ≤ 16) (h : decide (IntKind.i64.wrap ((i : Int) + 1) < (n : Int)) = false) : i = n - 1 := by
  rw [wrapI (by omega) (by omega)] at h
  have := of_decide_eq_false h
  omega
theorem star_i {n i : Nat} (h : decide ((i : Int) + 1 < (n : Int)) = true) : i + 1 < n := by
  have := of_decide_eq_true h
  omega
theorem star_o {n i : Nat} (hi : i + 1 ≤ n) (h : decide ((i : Int) + 1 < (n : Int)) = false) : i = n - 1 := by
  have := of_decide_eq_false h
  omega
theorem line_pair {i : Nat} (h : i < 60) : ((i : Int), IntKind.i64.wrap ((i : Int) + 1)) = lineF i := by
  rw [wrapI (by omega) (by omega)]; rfl
theorem star_pair (i : Nat) : ((0 : Int), (i : Int) + 1) = starF i := rfl
theorem tree_pair {k : Int} (hk : 1 ≤ k) {j : Nat} (hj : j < 60) : (IntKind.i64.wrap ((IntKind.i64.wrap ((j : Int) + 1 - 1)).tdiv k), (j : Int) + 1) = treeF k j := by
  rw [tree_quo hk hj]; rfl
set_option maxRecDepth 20000 in
theorem line45_D (n : Nat) (hn : 1 ≤ n ∧ n ≤ 16) : DPure Try.prog 45 [int1 n] (links (putA [] (preL lineF (n - 1)))) := by
  refine DFun.data (DFun.body Try.func45 rfl (by kernel_rfl) ?_)
  repeat' (first | with_reducible rfl | ((conv => whnf); first | refine And.intro ?_ ?_ | (intro h; first | exact Bool.noConfusion h | with_reducible exact h | (have ht : true = true := h; clear ht h) | skip) | ((with_reducible refine DWl.mark ?_); repeat' (first | refine DWl.cons ?_ ?_ | exact DWl.nil | exact DW.same _ rfl | exact DW.ref _ _ _ rfl | exact DW.arr _ _ _ rfl | exact DW.sub _ _ _ _ rfl | exact DW.nilLst _ | refine DW.aggl ?_ | refine DW.tupl ?_ | refine DW.clol ?_ ?_ | refine DW.int ?_ | refine DW.bool ?_ | refine DW.str ?_)) | ((with_reducible refine SCall.mark ?_); first | refine SCall.data (put46_D _ _ _ ?_) rfl rfl ?_ | refine SCall.scal (put46_D _ _ _ ?_) rfl rfl ?_) | ((with_reducible refine PCall.mark ?_); first | refine PCall.mk (put46_D _ _ _ ?_) rfl rfl ?_) | ((with_reducible refine GCall.mark ?_); first | refine GCall.data (fun _ => put46_D _ _ _ ?_) rfl rfl ?_ | refine GCall.scal (fun _ => put46_D _ _ _ ?_) rfl rfl ?_) | ((with_reducible refine MCall.mark ?_); first | refine MCall.data (fun _ => put46_D _ _ _ ?_) rfl rfl ?_ | refine MCall.plain (PCall.mk (put46_D _ _ _ ?_) rfl rfl ?_)) | ((with_reducible refine Tri.mark ?_); first | refine Tri.loop (lineSt n) (fun i => i + 1 ≤ n) (fun i => n - i) (0) (by kernel_rfl) (Weak.list [] [] ?_ ?_ ?_) ?_ ?_) | refine dcell_ok rfl ?_ | refine AppC.new ?_))
  all_goals first | (with_reducible refine enters_mark ?_; kernel_rfl) | (with_reducible refine boolT_mark ?_; kernel_rfl) | rfl | trivial | assumption | exact Nat.le_of_ble_eq_true rfl | (show entersB _ _ = true; kernel_rfl) | exact DW.same _ rfl | exact DW.ref _ _ _ rfl | exact DW.arr _ _ _ rfl | refine DW.int ?_ | refine dvb ?_ | refine dvi ?_ | exact OW.cells rfl rfl (DWl.same rfl) | exact Nat.zero_le _ | omega | skip
  all_goals repeat' (first | refine OW.cells rfl rfl ?_ | exact DW.nilArr _ rfl | refine DWl.cons ?_ ?_ | exact DWl.nil | exact DW.same _ rfl | exact DW.ref _ _ _ rfl | exact DW.arr _ _ _ rfl | exact DW.sub _ _ _ _ rfl | exact DW.nilLst _ | refine DW.aggl ?_ | refine DW.tupl ?_ | refine DW.clol ?_ ?_)
  all_goals try ((conv => whnf); with_reducible first | refine Round.mark ?_ | refine Tells.mark ?_ | refine Retold.mark ?_)
  all_goals try first | (show (_ : Bool) = _; simp_all; done) | (show (_ : Int) < _; simp at *; omega) | (show (_ : Int) ≤ _; simp at *; omega) | (show (_ : Nat) < _; simp at *; omega) | (show (_ : Nat) ≤ _; simp at *; omega)
  · exact DW.nilLks (doc_zero _)
  · exact doc_len (n := n) (by omega) hn.2
  · rename_i i hi
    have h2 := line_i hi hn.2 h
    refine Round.go (· + 1) (by omega) (by show n - (i + 1) < n - i; omega) (Weak.list [] [] (by kernel_rfl) ?_ ?_)
    · repeat' (first | exact wsucc (n := n) hi (by omega) | exact DW.lstE (doc_step (line_pair (by omega))) | exact DW.same _ rfl | exact DW.ref _ _ _ rfl | exact DW.arr _ _ _ rfl | exact OW.cells rfl rfl (DWl.same rfl) | refine OW.cells rfl rfl ?_ | refine DWl.cons ?_ ?_ | exact DWl.nil | exact DW.nilArr _ rfl | exact DW.nilLst _ | refine DW.clol ?_ ?_ | refine DW.aggl ?_ | refine DW.tupl ?_ | refine DW.int ?_ | refine DW.bool ?_ | refine DW.str ?_ | refine DW.arrE rfl ?_ | ((conv => whnf); first | refine And.intro ?_ ?_ | trivial))
    · repeat' (first | exact wsucc (n := n) hi (by omega) | exact DW.lstE (doc_step (line_pair (by omega))) | exact DW.same _ rfl | exact DW.ref _ _ _ rfl | exact DW.arr _ _ _ rfl | exact OW.cells rfl rfl (DWl.same rfl) | refine OW.cells rfl rfl ?_ | refine DWl.cons ?_ ?_ | exact DWl.nil | exact DW.nilArr _ rfl | exact DW.nilLst _ | refine DW.clol ?_ ?_ | refine DW.aggl ?_ | refine DW.tupl ?_ | refine DW.int ?_ | refine DW.bool ?_ | refine DW.str ?_ | refine DW.arrE rfl ?_ | ((conv => whnf); first | refine And.intro ?_ ?_ | trivial))
  · rename_i i hi
    have h2 := line_o hi hn.2 h
    subst h2
    conv => whnf
    exact Tells.mk (DW.same _ rfl)
def starSt (n i : Nat) : St := ⟨0, tmOf [(1, int1 n), (7, links (putA [] (preL starF i))), (8, int1 ((i : Int) + 1))], .of [] 0⟩
set_option maxRecDepth 20000 in
theorem star31_D (n : Nat) (hn : 1 ≤ n ∧ n ≤ 16) (k : Int) : DPure Try.prog 31 [int1 3, int1 n, int1 k] (links (putA [] (preL starF (n - 1)))) := by
  refine DFun.data (DFun.body Try.func31 rfl (by kernel_rfl) ?_)
  repeat' (first | with_reducible rfl | ((conv => whnf); first | refine And.intro ?_ ?_ | (intro h; first | exact Bool.noConfusion h | with_reducible exact h | (refine not_t h ?_; rfl) | (refine not_f h ?_; rfl) | (have ht : true = true := h; clear ht h) | skip) | ((with_reducible refine DWl.mark ?_); repeat' (first | refine DWl.cons ?_ ?_ | exact DWl.nil | exact DW.same _ rfl | exact DW.ref _ _ _ rfl | exact DW.arr _ _ _ rfl | exact DW.sub _ _ _ _ rfl | exact DW.nilLst _ | refine DW.aggl ?_ | refine DW.tupl ?_ | refine DW.clol ?_ ?_ | refine DW.int ?_ | refine DW.bool ?_ | refine DW.str ?_)) | ((with_reducible refine SCall.mark ?_); first | refine SCall.data (put46_D _ _ _ ?_) rfl rfl ?_ | refine SCall.scal (put46_D _ _ _ ?_) rfl rfl ?_) | ((with_reducible refine PCall.mark ?_); first | refine PCall.mk (put46_D _ _ _ ?_) rfl rfl ?_) | ((with_reducible refine GCall.mark ?_); first | refine GCall.data (fun _ => put46_D _ _ _ ?_) rfl rfl ?_ | refine GCall.scal (fun _ => put46_D _ _ _ ?_) rfl rfl ?_) | ((with_reducible refine MCall.mark ?_); first | refine MCall.data (fun _ => put46_D _ _ _ ?_) rfl rfl ?_ | refine MCall.plain (PCall.mk (put46_D _ _ _ ?_) rfl rfl ?_)) | ((with_reducible refine Tri.mark ?_); first | refine Tri.loop (starSt n) (fun i => i + 1 ≤ n) (fun i => n - i) (0) (by kernel_rfl) (Weak.list [] [] ?_ ?_ ?_) ?_ ?_) | refine dcell_ok rfl ?_ | refine AppC.new ?_))
  all_goals first | (with_reducible refine enters_mark ?_; kernel_rfl) | (with_reducible refine boolT_mark ?_; kernel_rfl) | rfl | trivial | assumption | exact Nat.le_of_ble_eq_true rfl | (show entersB _ _ = true; kernel_rfl) | exact DW.same _ rfl | exact DW.ref _ _ _ rfl | exact DW.arr _ _ _ rfl | refine DW.int ?_ | refine dvb ?_ | refine dvi ?_ | exact OW.cells rfl rfl (DWl.same rfl) | exact Nat.zero_le _ | omega | skip
  all_goals repeat' (first | refine OW.cells rfl rfl ?_ | exact DW.nilArr _ rfl | refine DWl.cons ?_ ?_ | exact DWl.nil | exact DW.same _ rfl | exact DW.ref _ _ _ rfl | exact DW.arr _ _ _ rfl | exact DW.sub _ _ _ _ rfl | exact DW.nilLst _ | refine DW.aggl ?_ | refine DW.tupl ?_ | refine DW.clol ?_ ?_)
  all_goals try ((conv => whnf); with_reducible first | refine Round.mark ?_ | refine Tells.mark ?_ | refine Retold.mark ?_)
  all_goals try first | (show (_ : Bool) = _; simp_all; done) | (show (_ : Int) < _; simp at *; omega) | (show (_ : Int) ≤ _; simp at *; omega) | (show (_ : Nat) < _; simp at *; omega) | (show (_ : Nat) ≤ _; simp at *; omega)
  · exact DW.nilLks (doc_zero _)
  · exact doc_len (n := n) (by omega) hn.2
  · rename_i i hi
    have h2 := star_i h
    refine Round.go (· + 1) (by omega) (by show n - (i + 1) < n - i; omega) (Weak.list [] [] (by kernel_rfl) ?_ ?_)
    · repeat' (first | exact wsucc (k := i + 1) (n := n) h2 (by omega) | exact DW.lstE (doc_step (star_pair _)) | exact DW.same _ rfl | exact DW.ref _ _ _ rfl | exact DW.arr _ _ _ rfl | exact OW.cells rfl rfl (DWl.same rfl) | refine OW.cells rfl rfl ?_ | refine DWl.cons ?_ ?_ | exact DWl.nil | exact DW.nilArr _ rfl | exact DW.nilLst _ | refine DW.clol ?_ ?_ | refine DW.aggl ?_ | refine DW.tupl ?_ | refine DW.int ?_ | refine DW.bool ?_ | refine DW.str ?_ | refine DW.arrE rfl ?_ | ((conv => whnf); first | refine And.intro ?_ ?_ | trivial))
    · repeat' (first | exact wsucc (k := i + 1) (n := n) h2 (by omega) | exact DW.lstE (doc_step (star_pair _)) | exact DW.same _ rfl | exact DW.ref _ _ _ rfl | exact DW.arr _ _ _ rfl | exact OW.cells rfl rfl (DWl.same rfl) | refine OW.cells rfl rfl ?_ | refine DWl.cons ?_ ?_ | exact DWl.nil | exact DW.nilArr _ rfl | exact DW.nilLst _ | refine DW.clol ?_ ?_ | refine DW.aggl ?_ | refine DW.tupl ?_ | refine DW.int ?_ | refine DW.bool ?_ | refine DW.str ?_ | refine DW.arrE rfl ?_ | ((conv => whnf); first | refine And.intro ?_ ?_ | trivial))
  · rename_i i hi
    have h2 := star_o hi h
    subst h2
    conv => whnf
    exact Tells.mk (DW.same _ rfl)
def treeSt (n : Nat) (k : Int) (i : Nat) : St := ⟨0, tmOf [(1, int1 n), (2, int1 k), (7, links (putA [] (preL (treeF k) i))), (12, int1 ((i : Int) + 1))], .of [] 0⟩
set_option maxRecDepth 20000 in
theorem tree31_D (n : Nat) (hn : 1 ≤ n ∧ n ≤ 16) (k : Int) (hk : 1 ≤ k) : DPure Try.prog 31 [int1 6, int1 n, int1 k] (links (putA [] (preL (treeF k) (n - 1)))) := by
  refine DFun.data (DFun.body Try.func31 rfl (by kernel_rfl) ?_)
  repeat' (first | with_reducible rfl | ((conv => whnf); first | refine And.intro ?_ ?_ | (intro h; first | exact Bool.noConfusion h | with_reducible exact h | (refine not_t h ?_; rfl) | (refine not_f h ?_; rfl) | (have ht : true = true := h; clear ht h) | skip) | ((with_reducible refine DWl.mark ?_); repeat' (first | refine DWl.cons ?_ ?_ | exact DWl.nil | exact DW.same _ rfl | exact DW.ref _ _ _ rfl | exact DW.arr _ _ _ rfl | exact DW.sub _ _ _ _ rfl | exact DW.nilLst _ | refine DW.aggl ?_ | refine DW.tupl ?_ | refine DW.clol ?_ ?_ | refine DW.int ?_ | refine DW.bool ?_ | refine DW.str ?_)) | ((with_reducible refine SCall.mark ?_); first | refine SCall.data (put46_D _ _ _ ?_) rfl rfl ?_ | refine SCall.scal (put46_D _ _ _ ?_) rfl rfl ?_) | ((with_reducible refine PCall.mark ?_); first | refine PCall.mk (put46_D _ _ _ ?_) rfl rfl ?_) | ((with_reducible refine GCall.mark ?_); first | refine GCall.data (fun _ => put46_D _ _ _ ?_) rfl rfl ?_ | refine GCall.scal (fun _ => put46_D _ _ _ ?_) rfl rfl ?_) | ((with_reducible refine MCall.mark ?_); first | refine MCall.data (fun _ => put46_D _ _ _ ?_) rfl rfl ?_ | refine MCall.plain (PCall.mk (put46_D _ _ _ ?_) rfl rfl ?_)) | ((with_reducible refine Tri.mark ?_); first | refine Tri.loop (treeSt n k) (fun i => i + 1 ≤ n) (fun i => n - i) (0) (by kernel_rfl) (Weak.list [] [] ?_ ?_ ?_) ?_ ?_) | refine dcell_ok rfl ?_ | refine AppC.new ?_))
  all_goals first | (with_reducible refine enters_mark ?_; kernel_rfl) | (with_reducible refine boolT_mark ?_; kernel_rfl) | rfl | trivial | assumption | exact Nat.le_of_ble_eq_true rfl | (show entersB _ _ = true; kernel_rfl) | exact DW.same _ rfl | exact DW.ref _ _ _ rfl | exact DW.arr _ _ _ rfl | refine DW.int ?_ | refine dvb ?_ | refine dvi ?_ | exact OW.cells rfl rfl (DWl.same rfl) | exact Nat.zero_le _ | omega | skip
  all_goals repeat' (first | refine OW.cells rfl rfl ?_ | exact DW.nilArr _ rfl | refine DWl.cons ?_ ?_ | exact DWl.nil | exact DW.same _ rfl | exact DW.ref _ _ _ rfl | exact DW.arr _ _ _ rfl | exact DW.sub _ _ _ _ rfl | exact DW.nilLst _ | refine DW.aggl ?_ | refine DW.tupl ?_ | refine DW.clol ?_ ?_)
  all_goals try ((conv => whnf); with_reducible first | refine Round.mark ?_ | refine Tells.mark ?_ | refine Retold.mark ?_)
  all_goals try first | (show (_ : Bool) = _; simp_all; done) | (show (_ : Int) < _; simp at *; omega) | (show (_ : Int) ≤ _; simp at *; omega) | (show (_ : Nat) < _; simp at *; omega) | (show (_ : Nat) ≤ _; simp at *; omega)
  · exact DW.nilLks (doc_zero _)
  · exact doc_len (n := n) (by omega) hn.2
  · rename_i i hi
    have h2 := star_i h
    refine Round.go (· + 1) (by omega) (by show n - (i + 1) < n - i; omega) (Weak.list [] [] (by kernel_rfl) ?_ ?_)
    · repeat' (first | exact wsucc (k := i + 1) (n := n) h2 (by omega) | exact DW.lstE (doc_step (tree_pair hk (by omega))) | exact DW.same _ rfl | exact DW.ref _ _ _ rfl | exact DW.arr _ _ _ rfl | exact OW.cells rfl rfl (DWl.same rfl) | refine OW.cells rfl rfl ?_ | refine DWl.cons ?_ ?_ | exact DWl.nil | exact DW.nilArr _ rfl | exact DW.nilLst _ | refine DW.clol ?_ ?_ | refine DW.aggl ?_ | refine DW.tupl ?_ | refine DW.int ?_ | refine DW.bool ?_ | refine DW.str ?_ | refine DW.arrE rfl ?_ | ((conv => whnf); first | refine And.intro ?_ ?_ | trivial))
    · repeat' (first | exact wsucc (k := i + 1) (n := n) h2 (by omega) | exact DW.lstE (doc_step (tree_pair hk (by omega))) | exact DW.same _ rfl | exact DW.ref _ _ _ rfl | exact DW.arr _ _ _ rfl | exact OW.cells rfl rfl (DWl.same rfl) | refine OW.cells rfl rfl ?_ | refine DWl.cons ?_ ?_ | exact DWl.nil | exact DW.nilArr _ rfl | exact DW.nilLst _ | refine DW.clol ?_ ?_ | refine DW.aggl ?_ | refine DW.tupl ?_ | refine DW.int ?_ | refine DW.bool ?_ | refine DW.str ?_ | refine DW.arrE rfl ?_ | ((conv => whnf); first | refine And.intro ?_ ?_ | trivial))
  · rename_i i hi
    have h2 := star_o hi h
    subst h2
    conv => whnf
    exact Tells.mk (DW.same _ rfl)
theorem ring_put {n : Nat} (h : 3 ≤ n) {b : Int} (hb : b = (n : Int) - 1) : links (putA [] (ringL n)) = links (putT (putA [] (preL lineF (n - 1))) 0 b) := by
  rw [put_step (ps' := ringL n)]
  rw [ringL, if_pos h, hb]
theorem ring_not {n : Nat} (h : ¬ 3 ≤ n) : links (putA [] (ringL n)) = links (putA [] (preL lineF (n - 1))) := by
  rw [ringL, if_neg h, List.append_nil]
theorem line31_D (n : Nat) (hn : 1 ≤ n ∧ n ≤ 16) (k : Int) : DPure Try.prog 31 [int1 1, int1 n, int1 k] (links (putA [] (preL lineF (n - 1)))) := by
  refine DFun.data (DFun.body Try.func31 rfl (by kernel_rfl) ?_)
  repeat' (first | with_reducible rfl | ((conv => whnf); first | refine And.intro ?_ ?_ | (intro h; first | exact Bool.noConfusion h | with_reducible exact h | (refine not_t h ?_; rfl) | (refine not_f h ?_; rfl) | (have ht : true = true := h; clear ht h) | skip) | ((with_reducible refine DWl.mark ?_); repeat' (first | refine DWl.cons ?_ ?_ | exact DWl.nil | exact DW.same _ rfl | exact DW.ref _ _ _ rfl | exact DW.arr _ _ _ rfl | exact DW.sub _ _ _ _ rfl | exact DW.nilLst _ | refine DW.aggl ?_ | refine DW.tupl ?_ | refine DW.clol ?_ ?_ | refine DW.int ?_ | refine DW.bool ?_ | refine DW.str ?_)) | ((with_reducible refine SCall.mark ?_); first | refine SCall.data (line45_D n hn) rfl rfl ?_ | refine SCall.scal (line45_D n hn) rfl rfl ?_) | ((with_reducible refine PCall.mark ?_); first | refine PCall.mk (line45_D n hn) rfl rfl ?_) | ((with_reducible refine GCall.mark ?_); first | refine GCall.data (fun _ => line45_D n hn) rfl rfl ?_ | refine GCall.scal (fun _ => line45_D n hn) rfl rfl ?_) | ((with_reducible refine MCall.mark ?_); first | refine MCall.data (fun _ => line45_D n hn) rfl rfl ?_ | refine MCall.plain (PCall.mk (line45_D n hn) rfl rfl ?_)) | refine dcell_ok rfl ?_ | refine AppC.new ?_))
  all_goals first | (with_reducible refine enters_mark ?_; kernel_rfl) | (with_reducible refine boolT_mark ?_; kernel_rfl) | rfl | trivial | assumption | exact Nat.le_of_ble_eq_true rfl | (show entersB _ _ = true; kernel_rfl) | exact DW.same _ rfl | exact DW.ref _ _ _ rfl | exact DW.arr _ _ _ rfl | refine DW.int ?_ | refine dvb ?_ | refine dvi ?_ | exact OW.cells rfl rfl (DWl.same rfl) | exact Nat.zero_le _ | omega | skip
  all_goals repeat' (first | refine OW.cells rfl rfl ?_ | exact DW.nilArr _ rfl | refine DWl.cons ?_ ?_ | exact DWl.nil | exact DW.same _ rfl | exact DW.ref _ _ _ rfl | exact DW.arr _ _ _ rfl | exact DW.sub _ _ _ _ rfl | exact DW.nilLst _ | refine DW.aggl ?_ | refine DW.tupl ?_ | refine DW.clol ?_ ?_)
  all_goals try ((conv => whnf); with_reducible first | refine Round.mark ?_ | refine Tells.mark ?_ | refine Retold.mark ?_)
  all_goals try first | (show (_ : Bool) = _; simp_all; done) | (show (_ : Int) < _; simp at *; omega) | (show (_ : Int) ≤ _; simp at *; omega) | (show (_ : Nat) < _; simp at *; omega) | (show (_ : Nat) ≤ _; simp at *; omega)
  conv => whnf
  exact Tells.mk (DW.same _ rfl)
theorem ring31_D (n : Nat) (hn : 1 ≤ n ∧ n ≤ 16) (k : Int) : DPure Try.prog 31 [int1 2, int1 n, int1 k] (links (putA [] (ringL n))) := by
  refine DFun.data (DFun.body Try.func31 rfl (by kernel_rfl) ?_)
  repeat' (first | with_reducible rfl | ((conv => whnf); first | refine And.intro ?_ ?_ | (intro h; first | exact Bool.noConfusion h | with_reducible exact h | (refine not_t h ?_; rfl) | (refine not_f h ?_; rfl) | (have ht : true = true := h; clear ht h) | skip) | ((with_reducible refine DWl.mark ?_); repeat' (first | refine DWl.cons ?_ ?_ | exact DWl.nil | exact DW.same _ rfl | exact DW.ref _ _ _ rfl | exact DW.arr _ _ _ rfl | exact DW.sub _ _ _ _ rfl | exact DW.nilLst _ | refine DW.aggl ?_ | refine DW.tupl ?_ | refine DW.clol ?_ ?_ | refine DW.int ?_ | refine DW.bool ?_ | refine DW.str ?_)) | ((with_reducible refine SCall.mark ?_); first | refine SCall.data (line45_D n hn) rfl rfl ?_ | refine SCall.scal (line45_D n hn) rfl rfl ?_ | refine SCall.data (put46_D _ _ _ ?_) rfl rfl ?_ | refine SCall.scal (put46_D _ _ _ ?_) rfl rfl ?_) | ((with_reducible refine PCall.mark ?_); first | refine PCall.mk (line45_D n hn) rfl rfl ?_ | refine PCall.mk (put46_D _ _ _ ?_) rfl rfl ?_) | ((with_reducible refine GCall.mark ?_); first | refine GCall.data (fun _ => line45_D n hn) rfl rfl ?_ | refine GCall.scal (fun _ => line45_D n hn) rfl rfl ?_ | refine GCall.data (fun _ => put46_D _ _ _ ?_) rfl rfl ?_ | refine GCall.scal (fun _ => put46_D _ _ _ ?_) rfl rfl ?_) | ((with_reducible refine MCall.mark ?_); first | refine MCall.data (fun _ => line45_D n hn) rfl rfl ?_ | refine MCall.plain (PCall.mk (line45_D n hn) rfl rfl ?_) | refine MCall.data (fun _ => put46_D _ _ _ ?_) rfl rfl ?_ | refine MCall.plain (PCall.mk (put46_D _ _ _ ?_) rfl rfl ?_)) | refine dcell_ok rfl ?_ | refine AppC.new ?_))
  all_goals first | (with_reducible refine enters_mark ?_; kernel_rfl) | (with_reducible refine boolT_mark ?_; kernel_rfl) | rfl | trivial | assumption | exact Nat.le_of_ble_eq_true rfl | (show entersB _ _ = true; kernel_rfl) | exact DW.same _ rfl | exact DW.ref _ _ _ rfl | exact DW.arr _ _ _ rfl | refine DW.int ?_ | refine dvb ?_ | refine dvi ?_ | exact OW.cells rfl rfl (DWl.same rfl) | exact Nat.zero_le _ | omega | skip
  all_goals repeat' (first | refine OW.cells rfl rfl ?_ | exact DW.nilArr _ rfl | refine DWl.cons ?_ ?_ | exact DWl.nil | exact DW.same _ rfl | exact DW.ref _ _ _ rfl | exact DW.arr _ _ _ rfl | exact DW.sub _ _ _ _ rfl | exact DW.nilLst _ | refine DW.aggl ?_ | refine DW.tupl ?_ | refine DW.clol ?_ ?_)
  all_goals try ((conv => whnf); with_reducible first | refine Round.mark ?_ | refine Tells.mark ?_ | refine Retold.mark ?_)
  all_goals try first | (show (_ : Bool) = _; simp_all; done) | (show (_ : Int) < _; simp at *; omega) | (show (_ : Int) ≤ _; simp at *; omega) | (show (_ : Nat) < _; simp at *; omega) | (show (_ : Nat) ≤ _; simp at *; omega)
  · exact doc_len (n := n) (by omega) hn.2
  · have h3 : 3 ≤ n := by have : decide ((3 : Int) ≤ n) = true := h; simp at this; omega
    conv => whnf
    exact Tells.of (r1 := links (putT (putA [] (preL lineF (n - 1))) 0 (IntKind.i64.wrap ((n : Int) - 1)))) (ring_put h3 (wrapI (by omega) (by omega))) (Tells.mk (DW.same _ rfl))
  · have h3 : ¬ 3 ≤ n := by have : decide ((3 : Int) ≤ n) = false := h; simp at this; omega
    conv => whnf
    exact Tells.of (r1 := links (putA [] (preL lineF (n - 1)))) (ring_not h3) (Tells.mk (DW.same _ rfl))
theorem full_put {n a i : Nat} : putT (putA [] (fullI n a i)) a ((a : Int) + 1 + i) = putA [] (fullI n a (i + 1)) := put_step (full_step _ _ _)
theorem full_dlen {n a i : Nat} (ha : a < n) (hi : i ≤ n) (hn : n ≤ 16) : (putA [] (fullI n a i)).length ≤ 1000 := by
  have h1 := putA_len (fullI n a i) []
  have h2 := fullI_len n a i hn
  simp only [List.length_nil] at h1; omega
def full9St (n a : Nat) : St := ⟨0, tmOf [(1, int1 n), (7, links (putA [] (fullP n a))), (9, int1 a)], .of [] 0⟩
def full10St (n a i : Nat) : St := ⟨0, tmOf [(1, int1 n), (7, links (putA [] (fullI n a i))), (9, int1 a), (10, int1 ((a : Int) + 1 + i))], .of [] 0⟩
theorem full_dzero (n : Nat) : putA [] (fullP n 0) = [] := by
  have : fullP n 0 = [] := rfl
  rw [this, putA_nil]
theorem full_d0 (n a : Nat) : (putA [] (fullP n a)).map linkD = (putA [] (fullI n a 0)).map linkD := by rw [full_zero]
theorem full_d1 (n a : Nat) : (putA [] (fullI n a (n - 1 - a))).map linkD = (putA [] (fullP n (a + 1))).map linkD := by rw [full_next]
theorem full_in0d {a : Nat} (h : a < 100) : IntKind.i64.wrap ((a : Int) + 1) = (a : Int) + 1 + ((0 : Nat) : Int) := by rw [wrapI (by omega) (by omega)]; omega
theorem full_dn {a i : Nat} (ha : a < 100) (hi : i < 100) : IntKind.i64.wrap ((a : Int) + 1 + i + 1) = (a : Int) + 1 + ((i + 1 : Nat) : Int) := by rw [wrapI (by omega) (by omega)]; omega
attribute [local irreducible] fullP fullI
set_option maxRecDepth 20000 in
theorem full31_D (n : Nat) (hn : 1 ≤ n ∧ n ≤ 16) (k : Int) : DPure Try.prog 31 [int1 4, int1 n, int1 k] (links (putA [] (fullP n n))) := by
  refine DFun.data (DFun.body Try.func31 rfl (by kernel_rfl) ?_)
  repeat' (first | with_reducible rfl | ((conv => whnf); first | refine And.intro ?_ ?_ | (intro h; first | exact Bool.noConfusion h | with_reducible exact h | (refine not_t h ?_; rfl) | (refine not_f h ?_; rfl) | (have ht : true = true := h; clear ht h) | skip) | ((with_reducible refine DWl.mark ?_); repeat' (first | refine DWl.cons ?_ ?_ | exact DWl.nil | exact DW.same _ rfl | exact DW.ref _ _ _ rfl | exact DW.arr _ _ _ rfl | exact DW.sub _ _ _ _ rfl | exact DW.nilLst _ | refine DW.aggl ?_ | refine DW.tupl ?_ | refine DW.clol ?_ ?_ | refine DW.int ?_ | refine DW.bool ?_ | refine DW.str ?_)) | ((with_reducible refine SCall.mark ?_); first | refine SCall.data (put46_D _ _ _ ?_) rfl rfl ?_ | refine SCall.scal (put46_D _ _ _ ?_) rfl rfl ?_) | ((with_reducible refine PCall.mark ?_); first | refine PCall.mk (put46_D _ _ _ ?_) rfl rfl ?_) | ((with_reducible refine GCall.mark ?_); first | refine GCall.data (fun _ => put46_D _ _ _ ?_) rfl rfl ?_ | refine GCall.scal (fun _ => put46_D _ _ _ ?_) rfl rfl ?_) | ((with_reducible refine MCall.mark ?_); first | refine MCall.data (fun _ => put46_D _ _ _ ?_) rfl rfl ?_ | refine MCall.plain (PCall.mk (put46_D _ _ _ ?_) rfl rfl ?_)) | ((with_reducible refine Tri.mark ?_); first | (refine Tri.at (9) (int1 0) (by rfl) ?_; refine Tri.loop (full9St n) (fun a => a ≤ n) (fun a => n - a) (0) (by kernel_rfl) (Weak.list [] [] ?_ ?_ ?_) ?_ ?_)) | refine dcell_ok rfl ?_ | refine AppC.new ?_))
  all_goals first | (with_reducible refine enters_mark ?_; kernel_rfl) | (with_reducible refine boolT_mark ?_; kernel_rfl) | rfl | trivial | assumption | exact Nat.le_of_ble_eq_true rfl | (show entersB _ _ = true; kernel_rfl) | exact DW.same _ rfl | exact DW.ref _ _ _ rfl | exact DW.arr _ _ _ rfl | refine DW.int ?_ | refine dvb ?_ | refine dvi ?_ | exact OW.cells rfl rfl (DWl.same rfl) | exact Nat.zero_le _ | omega | skip
  all_goals repeat' (first | refine OW.cells rfl rfl ?_ | exact DW.nilArr _ rfl | refine DWl.cons ?_ ?_ | exact DWl.nil | exact DW.same _ rfl | exact DW.ref _ _ _ rfl | exact DW.arr _ _ _ rfl | exact DW.sub _ _ _ _ rfl | exact DW.nilLst _ | refine DW.aggl ?_ | refine DW.tupl ?_ | refine DW.clol ?_ ?_)
  all_goals try ((conv => whnf); with_reducible first | refine Round.mark ?_ | refine Tells.mark ?_ | refine Retold.mark ?_)
  all_goals try first | (show (_ : Bool) = _; simp_all; done) | (show (_ : Int) < _; simp at *; omega) | (show (_ : Int) ≤ _; simp at *; omega) | (show (_ : Nat) < _; simp at *; omega) | (show (_ : Nat) ≤ _; simp at *; omega)
  · exact DW.nilLks (full_dzero n)
  · rename_i a ha
    have han := lt_int h
    conv => whnf
    refine Tri.loop (full10St n a) (fun i => i ≤ n - 1 - a) (fun i => n - 1 - a - i) 0 (by kernel_rfl) (Weak.list [] [] (by kernel_rfl) ?_ ?_) (Nat.zero_le _) ?_
    · repeat' (first | exact full_in0d (by omega) | exact DW.lstE (full_d0 n a) | exact DW.same _ rfl | exact DW.ref _ _ _ rfl | exact DW.arr _ _ _ rfl | exact OW.cells rfl rfl (DWl.same rfl) | refine OW.cells rfl rfl ?_ | refine DWl.cons ?_ ?_ | exact DWl.nil | exact DW.nilArr _ rfl | exact DW.nilLst _ | refine DW.clol ?_ ?_ | refine DW.aggl ?_ | refine DW.tupl ?_ | refine DW.int ?_ | refine DW.bool ?_ | refine DW.str ?_ | refine DW.arrE rfl ?_ | ((conv => whnf); first | refine And.intro ?_ ?_ | trivial))
    · repeat' (first | exact full_in0d (by omega) | exact DW.lstE (full_d0 n a) | exact DW.same _ rfl | exact DW.ref _ _ _ rfl | exact DW.arr _ _ _ rfl | exact OW.cells rfl rfl (DWl.same rfl) | refine OW.cells rfl rfl ?_ | refine DWl.cons ?_ ?_ | exact DWl.nil | exact DW.nilArr _ rfl | exact DW.nilLst _ | refine DW.clol ?_ ?_ | refine DW.aggl ?_ | refine DW.tupl ?_ | refine DW.int ?_ | refine DW.bool ?_ | refine DW.str ?_ | refine DW.arrE rfl ?_ | ((conv => whnf); first | refine And.intro ?_ ?_ | trivial))
    intro i hi
    repeat' (first | with_reducible rfl | ((conv => whnf); first | refine And.intro ?_ ?_ | (intro h; first | exact Bool.noConfusion h | with_reducible exact h | (have ht : true = true := h; clear ht h) | skip) | ((with_reducible refine DWl.mark ?_); repeat' (first | refine DWl.cons ?_ ?_ | exact DWl.nil | exact DW.same _ rfl | exact DW.ref _ _ _ rfl | exact DW.arr _ _ _ rfl | exact DW.sub _ _ _ _ rfl | exact DW.nilLst _ | refine DW.aggl ?_ | refine DW.tupl ?_ | refine DW.clol ?_ ?_ | refine DW.int ?_ | refine DW.bool ?_ | refine DW.str ?_)) | ((with_reducible refine SCall.mark ?_); first | refine SCall.data (put46_D _ _ _ ?_) rfl rfl ?_ | refine SCall.scal (put46_D _ _ _ ?_) rfl rfl ?_) | ((with_reducible refine PCall.mark ?_); first | refine PCall.mk (put46_D _ _ _ ?_) rfl rfl ?_) | ((with_reducible refine GCall.mark ?_); first | refine GCall.data (fun _ => put46_D _ _ _ ?_) rfl rfl ?_ | refine GCall.scal (fun _ => put46_D _ _ _ ?_) rfl rfl ?_) | ((with_reducible refine MCall.mark ?_); first | refine MCall.data (fun _ => put46_D _ _ _ ?_) rfl rfl ?_ | refine MCall.plain (PCall.mk (put46_D _ _ _ ?_) rfl rfl ?_)) | refine dcell_ok rfl ?_ | refine AppC.new ?_))
    all_goals try ((conv => whnf); with_reducible refine Round.mark ?_)
    all_goals try first | ((with_reducible show Option.isSome (slElem _ _) = true); kernel_rfl) | ((with_reducible show slElem _ _ = some _); kernel_rfl) | ((with_reducible refine enters_mark ?_); kernel_rfl) | (with_reducible assumption) | ((with_reducible show List.all _ DV.one = true); rfl) | ((with_reducible show (_ : Nat) = _); rfl) | ((with_reducible show (_ == true) = true); simpa using h) | ((with_reducible show (_ : Nat) ≤ _); exact Nat.le_of_ble_eq_true rfl) | ((with_reducible show (_ : Int) ≤ _); first | omega | decide) | ((with_reducible show (_ : Int) < _); first | omega | decide) | ((with_reducible show (_ : Nat) < _); omega) | ((with_reducible show (_ : Nat) ≤ _); omega)
    · exact full_dlen han (by omega) hn.2
    · have hin : i < n - 1 - a := by have := of_decide_eq_true h; omega
      refine Round.go (· + 1) (by omega) (by show n - 1 - a - (i + 1) < n - 1 - a - i; omega) (Weak.list [] [] (by kernel_rfl) ?_ ?_)
      · repeat' (first | exact full_dn (by omega) (by omega) | exact DW.lstE (congrArg (List.map linkD) full_put) | exact DW.same _ rfl | exact DW.ref _ _ _ rfl | exact DW.arr _ _ _ rfl | exact OW.cells rfl rfl (DWl.same rfl) | refine OW.cells rfl rfl ?_ | refine DWl.cons ?_ ?_ | exact DWl.nil | exact DW.nilArr _ rfl | exact DW.nilLst _ | refine DW.clol ?_ ?_ | refine DW.aggl ?_ | refine DW.tupl ?_ | refine DW.int ?_ | refine DW.bool ?_ | refine DW.str ?_ | refine DW.arrE rfl ?_ | ((conv => whnf); first | refine And.intro ?_ ?_ | trivial))
      · repeat' (first | exact full_dn (by omega) (by omega) | exact DW.lstE (congrArg (List.map linkD) full_put) | exact DW.same _ rfl | exact DW.ref _ _ _ rfl | exact DW.arr _ _ _ rfl | exact OW.cells rfl rfl (DWl.same rfl) | refine OW.cells rfl rfl ?_ | refine DWl.cons ?_ ?_ | exact DWl.nil | exact DW.nilArr _ rfl | exact DW.nilLst _ | refine DW.clol ?_ ?_ | refine DW.aggl ?_ | refine DW.tupl ?_ | refine DW.int ?_ | refine DW.bool ?_ | refine DW.str ?_ | refine DW.arrE rfl ?_ | ((conv => whnf); first | refine And.intro ?_ ?_ | trivial))
    · have hin : i = n - 1 - a := by have := of_decide_eq_false h; omega
      subst hin
      refine Round.go (· + 1) (by omega) (by show n - (a + 1) < n - a; omega) (Weak.list [] [] (by kernel_rfl) ?_ ?_)
      · repeat' (first | exact wsucc han (by omega) | exact DW.lstE (full_d1 n a) | exact DW.same _ rfl | exact DW.ref _ _ _ rfl | exact DW.arr _ _ _ rfl | exact OW.cells rfl rfl (DWl.same rfl) | refine OW.cells rfl rfl ?_ | refine DWl.cons ?_ ?_ | exact DWl.nil | exact DW.nilArr _ rfl | exact DW.nilLst _ | refine DW.clol ?_ ?_ | refine DW.aggl ?_ | refine DW.tupl ?_ | refine DW.int ?_ | refine DW.bool ?_ | refine DW.str ?_ | refine DW.arrE rfl ?_ | ((conv => whnf); first | refine And.intro ?_ ?_ | trivial))
      · repeat' (first | exact wsucc han (by omega) | exact DW.lstE (full_d1 n a) | exact DW.same _ rfl | exact DW.ref _ _ _ rfl | exact DW.arr _ _ _ rfl | exact OW.cells rfl rfl (DWl.same rfl) | refine OW.cells rfl rfl ?_ | refine DWl.cons ?_ ?_ | exact DWl.nil | exact DW.nilArr _ rfl | exact DW.nilLst _ | refine DW.clol ?_ ?_ | refine DW.aggl ?_ | refine DW.tupl ?_ | refine DW.int ?_ | refine DW.bool ?_ | refine DW.str ?_ | refine DW.arrE rfl ?_ | ((conv => whnf); first | refine And.intro ?_ ?_ | trivial))
  · rename_i a ha
    have : n = a := by have := ge_int h; omega
    subst this
    conv => whnf
    exact Tells.mk (DW.same _ rfl)
theorem gdA1 {n : Nat} {k : Int} {i : Nat} (hi : i < 60) (hk : 1 ≤ k) (h : (bif decide (IntKind.i64.wrap ((i : Int) + 1) < (n : Int)) then (IntKind.i64.wrap ((i : Int) + 1)).tmod k != 0 else false) = true) : gridA n k i = [((i : Int), (i : Int) + 1)] := by
  rw [gA hi hk] at h
  unfold gridA
  rw [if_pos (by simpa using h)]
theorem gdA0 {n : Nat} {k : Int} {i : Nat} (hi : i < 60) (hk : 1 ≤ k) (h : (bif decide (IntKind.i64.wrap ((i : Int) + 1) < (n : Int)) then (IntKind.i64.wrap ((i : Int) + 1)).tmod k != 0 else false) = false) : gridA n k i = [] := by
  rw [gA hi hk] at h
  unfold gridA
  rw [if_neg (by simpa using h)]
theorem gdB1 {n : Nat} {k : Int} {i : Nat} (hi : i < 60) (hn : n < 60) (hk : 1 ≤ k) (h : (bif decide (k < (n : Int)) then decide (IntKind.i64.wrap ((i : Int) + k) < (n : Int)) else false) = true) : gridB n k i = [((i : Int), (i : Int) + k)] ∧ IntKind.i64.wrap ((i : Int) + k) = (i : Int) + k := by
  by_cases h1 : k < (n : Int)
  · rw [wrapI (by omega) (by omega)] at h ⊢
    have h2 : (i : Int) + k < n := by simpa [h1] using h
    unfold gridB
    rw [if_pos (by omega)]
    exact ⟨rfl, rfl⟩
  · simp [h1] at h
theorem gdB0 {n : Nat} {k : Int} {i : Nat} (hi : i < 60) (hn : n < 60) (hk : 1 ≤ k) (h : (bif decide (k < (n : Int)) then decide (IntKind.i64.wrap ((i : Int) + k) < (n : Int)) else false) = false) : gridB n k i = [] := by
  unfold gridB
  rw [if_neg]
  intro h2
  rw [wrapI (by omega) (by omega)] at h
  have h1 : k < (n : Int) := by omega
  simp [h1] at h
  omega
theorem gd_put2 {P P' : List Lk} {a b b' c d d' : Int} (h : P' = P ++ ([(a, b)] ++ [(c, d)])) (hb : b' = b) (hd : d' = d) : (putT (putT (putA [] P) a b') c d').map linkD = (putA [] P').map linkD := by
  rw [hb, hd, h, ← List.append_assoc, putA_append, putA_one, putA_append, putA_one]
theorem gd_put1 {P P' : List Lk} {a b b' : Int} (h : P' = P ++ [(a, b)]) (hb : b' = b) : (putT (putA [] P) a b').map linkD = (putA [] P').map linkD := by
  rw [hb, h, putA_append, putA_one]
theorem gd_put0 {P P' : List Lk} (h : P' = P) : (putA [] P).map linkD = (putA [] P').map linkD := by rw [h]
theorem gd_len1 {P : List Lk} {i n : Nat} (h : P.length ≤ 2 * i) (hi : i ≤ n) (hn : n ≤ 16) : (putA [] P).length ≤ 1000 := by
  have h1 := putA_len P []
  simp only [List.length_nil] at h1; omega
theorem gd_len2 {P : List Lk} {a b : Int} {i n : Nat} (h : P.length ≤ 2 * i) (hi : i ≤ n) (hn : n ≤ 16) : (putT (putA [] P) a b).length ≤ 1000 := by
  have h1 := putA_len P []
  have h2 := putT_len (putA [] P) a b
  simp only [List.length_nil] at h1; omega
theorem gd_zero (n : Nat) (k : Int) : putA [] (gridP n k 0) = [] := by
  have : gridP n k 0 = [] := rfl
  rw [this, putA_nil]
def gridSt (n : Nat) (k : Int) (i : Nat) : St := ⟨0, tmOf [(1, int1 n), (2, int1 k), (7, links (putA [] (gridP n k i))), (11, int1 i)], .of [] 0⟩
attribute [local irreducible] gridP
set_option maxRecDepth 20000 in
theorem grid31_D (n : Nat) (hn : 1 ≤ n ∧ n ≤ 16) (k : Int) (hk : 1 ≤ k) : DPure Try.prog 31 [int1 5, int1 n, int1 k] (links (putA [] (gridP n k n))) := by
  refine DFun.data (DFun.body Try.func31 rfl (by kernel_rfl) ?_)
  repeat' (first | with_reducible rfl | ((conv => whnf); first | refine And.intro ?_ ?_ | (intro h; first | exact Bool.noConfusion h | with_reducible exact h | (refine not_t h ?_; rfl) | (refine not_f h ?_; rfl) | (have ht : true = true := h; clear ht h) | skip) | ((with_reducible refine DWl.mark ?_); repeat' (first | refine DWl.cons ?_ ?_ | exact DWl.nil | exact DW.same _ rfl | exact DW.ref _ _ _ rfl | exact DW.arr _ _ _ rfl | exact DW.sub _ _ _ _ rfl | exact DW.nilLst _ | refine DW.aggl ?_ | refine DW.tupl ?_ | refine DW.clol ?_ ?_ | refine DW.int ?_ | refine DW.bool ?_ | refine DW.str ?_)) | ((with_reducible refine SCall.mark ?_); first | refine SCall.data (put46_D _ _ _ ?_) rfl rfl ?_ | refine SCall.scal (put46_D _ _ _ ?_) rfl rfl ?_) | ((with_reducible refine PCall.mark ?_); first | refine PCall.mk (put46_D _ _ _ ?_) rfl rfl ?_) | ((with_reducible refine GCall.mark ?_); first | refine GCall.data (fun _ => put46_D _ _ _ ?_) rfl rfl ?_ | refine GCall.scal (fun _ => put46_D _ _ _ ?_) rfl rfl ?_) | ((with_reducible refine MCall.mark ?_); first | refine MCall.data (fun _ => put46_D _ _ _ ?_) rfl rfl ?_ | refine MCall.plain (PCall.mk (put46_D _ _ _ ?_) rfl rfl ?_)) | ((with_reducible refine Tri.mark ?_); first | (refine Tri.at (11) (int1 0) (by rfl) ?_; refine Tri.loop (gridSt n k) (fun a => a ≤ n) (fun a => n - a) (0) (by kernel_rfl) (Weak.list [] [] ?_ ?_ ?_) ?_ ?_)) | refine dcell_ok rfl ?_ | refine AppC.new ?_))
  all_goals first | (with_reducible refine enters_mark ?_; kernel_rfl) | (with_reducible refine boolT_mark ?_; kernel_rfl) | rfl | trivial | assumption | exact Nat.le_of_ble_eq_true rfl | (show entersB _ _ = true; kernel_rfl) | exact DW.same _ rfl | exact DW.ref _ _ _ rfl | exact DW.arr _ _ _ rfl | refine DW.int ?_ | refine dvb ?_ | refine dvi ?_ | exact OW.cells rfl rfl (DWl.same rfl) | exact Nat.zero_le _ | omega | skip
  all_goals repeat' (first | refine OW.cells rfl rfl ?_ | exact DW.nilArr _ rfl | refine DWl.cons ?_ ?_ | exact DWl.nil | exact DW.same _ rfl | exact DW.ref _ _ _ rfl | exact DW.arr _ _ _ rfl | exact DW.sub _ _ _ _ rfl | exact DW.nilLst _ | refine DW.aggl ?_ | refine DW.tupl ?_ | refine DW.clol ?_ ?_)
  all_goals try ((conv => whnf); with_reducible first | refine Round.mark ?_ | refine Tells.mark ?_ | refine Retold.mark ?_)
  all_goals try first | (show (_ : Bool) = _; simp_all; done) | (show (_ : Int) < _; simp at *; omega) | (show (_ : Int) ≤ _; simp at *; omega) | (show (_ : Nat) < _; simp at *; omega) | (show (_ : Nat) ≤ _; simp at *; omega)
  · exact DW.nilLks (gd_zero n k)
  · exact gd_len1 (gridP_len n k _) (by assumption) hn.2
  · exact gd_len2 (gridP_len n k _) (by assumption) hn.2
  · rename_i i hi e0 e1
    have hin := lt_int e0
    have a1 := gdA1 (by omega) hk e1
    have b1 := gdB1 (by omega) (by omega) hk h
    have e4 : gridP n k (i + 1) = gridP n k i ++ ([((i : Int), (i : Int) + 1)] ++ [((i : Int), (i : Int) + k)]) := by rw [grid_next, a1, b1.1]
    refine Round.go (· + 1) (by omega) (by show n - (i + 1) < n - i; omega) (Weak.list [] [] (by kernel_rfl) ?_ ?_)
    · repeat' (first | exact wsucc hin (by omega) | exact DW.lstE (gd_put2 e4 (wrapI (by omega) (by omega)) b1.2) | exact DW.same _ rfl | exact DW.ref _ _ _ rfl | exact DW.arr _ _ _ rfl | exact OW.cells rfl rfl (DWl.same rfl) | refine OW.cells rfl rfl ?_ | refine DWl.cons ?_ ?_ | exact DWl.nil | exact DW.nilArr _ rfl | exact DW.nilLst _ | refine DW.clol ?_ ?_ | refine DW.aggl ?_ | refine DW.tupl ?_ | refine DW.int ?_ | refine DW.bool ?_ | refine DW.str ?_ | refine DW.arrE rfl ?_ | ((conv => whnf); first | refine And.intro ?_ ?_ | trivial))
    · repeat' (first | exact wsucc hin (by omega) | exact DW.lstE (gd_put2 e4 (wrapI (by omega) (by omega)) b1.2) | exact DW.same _ rfl | exact DW.ref _ _ _ rfl | exact DW.arr _ _ _ rfl | exact OW.cells rfl rfl (DWl.same rfl) | refine OW.cells rfl rfl ?_ | refine DWl.cons ?_ ?_ | exact DWl.nil | exact DW.nilArr _ rfl | exact DW.nilLst _ | refine DW.clol ?_ ?_ | refine DW.aggl ?_ | refine DW.tupl ?_ | refine DW.int ?_ | refine DW.bool ?_ | refine DW.str ?_ | refine DW.arrE rfl ?_ | ((conv => whnf); first | refine And.intro ?_ ?_ | trivial))
  · rename_i i hi e0 e1
    have hin := lt_int e0
    have a1 := gdA1 (by omega) hk e1
    have b1 := gdB0 (by omega) (by omega) hk h
    have e4 : gridP n k (i + 1) = gridP n k i ++ [((i : Int), (i : Int) + 1)] := by rw [grid_next, a1, b1]; rfl
    refine Round.go (· + 1) (by omega) (by show n - (i + 1) < n - i; omega) (Weak.list [] [] (by kernel_rfl) ?_ ?_)
    · repeat' (first | exact wsucc hin (by omega) | exact DW.lstE (gd_put1 e4 (wrapI (by omega) (by omega))) | exact DW.same _ rfl | exact DW.ref _ _ _ rfl | exact DW.arr _ _ _ rfl | exact OW.cells rfl rfl (DWl.same rfl) | refine OW.cells rfl rfl ?_ | refine DWl.cons ?_ ?_ | exact DWl.nil | exact DW.nilArr _ rfl | exact DW.nilLst _ | refine DW.clol ?_ ?_ | refine DW.aggl ?_ | refine DW.tupl ?_ | refine DW.int ?_ | refine DW.bool ?_ | refine DW.str ?_ | refine DW.arrE rfl ?_ | ((conv => whnf); first | refine And.intro ?_ ?_ | trivial))
    · repeat' (first | exact wsucc hin (by omega) | exact DW.lstE (gd_put1 e4 (wrapI (by omega) (by omega))) | exact DW.same _ rfl | exact DW.ref _ _ _ rfl | exact DW.arr _ _ _ rfl | exact OW.cells rfl rfl (DWl.same rfl) | refine OW.cells rfl rfl ?_ | refine DWl.cons ?_ ?_ | exact DWl.nil | exact DW.nilArr _ rfl | exact DW.nilLst _ | refine DW.clol ?_ ?_ | refine DW.aggl ?_ | refine DW.tupl ?_ | refine DW.int ?_ | refine DW.bool ?_ | refine DW.str ?_ | refine DW.arrE rfl ?_ | ((conv => whnf); first | refine And.intro ?_ ?_ | trivial))
  · exact gd_len1 (gridP_len n k _) (by assumption) hn.2
  · rename_i i hi e0 e1
    have hin := lt_int e0
    have a1 := gdA0 (by omega) hk e1
    have b1 := gdB1 (by omega) (by omega) hk h
    have e4 : gridP n k (i + 1) = gridP n k i ++ [((i : Int), (i : Int) + k)] := by rw [grid_next, a1, b1.1]; rfl
    refine Round.go (· + 1) (by omega) (by show n - (i + 1) < n - i; omega) (Weak.list [] [] (by kernel_rfl) ?_ ?_)
    · repeat' (first | exact wsucc hin (by omega) | exact DW.lstE (gd_put1 e4 b1.2) | exact DW.same _ rfl | exact DW.ref _ _ _ rfl | exact DW.arr _ _ _ rfl | exact OW.cells rfl rfl (DWl.same rfl) | refine OW.cells rfl rfl ?_ | refine DWl.cons ?_ ?_ | exact DWl.nil | exact DW.nilArr _ rfl | exact DW.nilLst _ | refine DW.clol ?_ ?_ | refine DW.aggl ?_ | refine DW.tupl ?_ | refine DW.int ?_ | refine DW.bool ?_ | refine DW.str ?_ | refine DW.arrE rfl ?_ | ((conv => whnf); first | refine And.intro ?_ ?_ | trivial))
    · repeat' (first | exact wsucc hin (by omega) | exact DW.lstE (gd_put1 e4 b1.2) | exact DW.same _ rfl | exact DW.ref _ _ _ rfl | exact DW.arr _ _ _ rfl | exact OW.cells rfl rfl (DWl.same rfl) | refine OW.cells rfl rfl ?_ | refine DWl.cons ?_ ?_ | exact DWl.nil | exact DW.nilArr _ rfl | exact DW.nilLst _ | refine DW.clol ?_ ?_ | refine DW.aggl ?_ | refine DW.tupl ?_ | refine DW.int ?_ | refine DW.bool ?_ | refine DW.str ?_ | refine DW.arrE rfl ?_ | ((conv => whnf); first | refine And.intro ?_ ?_ | trivial))
  · rename_i i hi e0 e1
    have hin := lt_int e0
    have a1 := gdA0 (by omega) hk e1
    have b1 := gdB0 (by omega) (by omega) hk h
    have e4 : gridP n k (i + 1) = gridP n k i := by rw [grid_next, a1, b1]; simp
    refine Round.go (· + 1) (by omega) (by show n - (i + 1) < n - i; omega) (Weak.list [] [] (by kernel_rfl) ?_ ?_)
    · repeat' (first | exact wsucc hin (by omega) | exact DW.lstE (gd_put0 e4) | exact DW.same _ rfl | exact DW.ref _ _ _ rfl | exact DW.arr _ _ _ rfl | exact OW.cells rfl rfl (DWl.same rfl) | refine OW.cells rfl rfl ?_ | refine DWl.cons ?_ ?_ | exact DWl.nil | exact DW.nilArr _ rfl | exact DW.nilLst _ | refine DW.clol ?_ ?_ | refine DW.aggl ?_ | refine DW.tupl ?_ | refine DW.int ?_ | refine DW.bool ?_ | refine DW.str ?_ | refine DW.arrE rfl ?_ | ((conv => whnf); first | refine And.intro ?_ ?_ | trivial))
    · repeat' (first | exact wsucc hin (by omega) | exact DW.lstE (gd_put0 e4) | exact DW.same _ rfl | exact DW.ref _ _ _ rfl | exact DW.arr _ _ _ rfl | exact OW.cells rfl rfl (DWl.same rfl) | refine OW.cells rfl rfl ?_ | refine DWl.cons ?_ ?_ | exact DWl.nil | exact DW.nilArr _ rfl | exact DW.nilLst _ | refine DW.clol ?_ ?_ | refine DW.aggl ?_ | refine DW.tupl ?_ | refine DW.int ?_ | refine DW.bool ?_ | refine DW.str ?_ | refine DW.arrE rfl ?_ | ((conv => whnf); first | refine And.intro ?_ ?_ | trivial))
  · rename_i i hi
    have : n = i := by have := ge_int h; omega
    subst this
    conv => whnf
    exact Tells.mk (DW.same _ rfl)
end Go.Proofs.Ytphgcgggbbcjgaa

/- The document's pairs by chance, and its Links. -/
namespace Go.Proofs.Ytphgcgggbbcjgaa
open Go.RowKit Go.Dl
attribute [local irreducible] Tri SCall DFun QSem PCall GCall MCall Round Weak dloadE OW DWl Tells Retold ESem

def docL (n : Nat) : List Lk := putA [] (preL lineF (n - 1))
theorem wrapU {x : Int} (h : 0 ≤ x) (h2 : x < 18446744073709551616) : IntKind.u64.wrap x = x := by
  simp [IntKind.wrap, IntKind.bits, IntKind.signed]; omega
theorem stepU_pos (x : Int) : 0 ≤ stepU x := by
  unfold stepU
  simp [IntKind.wrap, IntKind.bits, IntKind.signed]; omega
theorem nodeE {n : Nat} (hn : 1 ≤ n ∧ n ≤ 16) (x : Int) : IntKind.i64.wrap (((stepU x).fdiv (2 ^ min (Int.toNat 33) IntKind.u64.bits)).tmod (IntKind.u64.wrap n)) = nodeU n (stepU x) := by
  have h0 := stepU_pos x
  have h1 := nodeU_rng hn.1 (stepU x)
  rw [shrU, wrapU (by omega) (by omega), Int.tmod_eq_emod_of_nonneg (Int.ediv_nonneg h0 (by decide))]
  exact wrapI (by unfold nodeU at h1; omega) (by unfold nodeU at h1; omega)
theorem rndD_len (n : Nat) (k : Int) (l0 : List Lk) (i : Nat) : (rndD n k l0 i).2.length ≤ l0.length + i := by
  induction i with
  | zero => exact Nat.le_refl _
  | succ i ih =>
    rw [rndD, rndD1]
    simp only
    split
    · have := putT_len (rndD n k l0 i).2 (nodeU n (stepU (rndD n k l0 i).1)) (nodeU n (stepU (stepU (rndD n k l0 i).1))); omega
    · omega
theorem docL_len (n : Nat) : (docL n).length ≤ n - 1 := by
  have := putA_len (preL lineF (n - 1)) []
  rw [pre_len] at this
  unfold docL
  simpa using this
theorem rnd_fst (n : Nat) (k : Int) (l0 : List Lk) (i : Nat) : stepU (stepU (rndD n k l0 i).1) = (rndD n k l0 (i + 1)).1 := rfl
theorem rnd_yes {n : Nat} {k : Int} {l0 : List Lk} {i : Nat} {a b : Int} (ha : a = nodeU n (stepU (rndD n k l0 i).1)) (hb : b = nodeU n (stepU (stepU (rndD n k l0 i).1)))
    (h : (bif decide (((degT (rndD n k l0 i).2 a : Nat) : Int) < 6) then decide (((degT (rndD n k l0 i).2 b : Nat) : Int) < 6) else false) = true) : (putT (rndD n k l0 i).2 a b).map linkD = (rndD n k l0 (i + 1)).2.map linkD := by
  rw [rndD, rndD1]
  simp only
  rw [← ha, ← hb, if_pos]
  unfold roomU
  by_cases h1 : ((degT (rndD n k l0 i).2 a : Nat) : Int) < 6
  · have h2 : ((degT (rndD n k l0 i).2 b : Nat) : Int) < 6 := by simpa [h1] using h
    simp; omega
  · simp [h1] at h
theorem rnd_no {n : Nat} {k : Int} {l0 : List Lk} {i : Nat} {a b : Int} (ha : a = nodeU n (stepU (rndD n k l0 i).1)) (hb : b = nodeU n (stepU (stepU (rndD n k l0 i).1)))
    (h : (bif decide (((degT (rndD n k l0 i).2 a : Nat) : Int) < 6) then decide (((degT (rndD n k l0 i).2 b : Nat) : Int) < 6) else false) = false) : (rndD n k l0 i).2.map linkD = (rndD n k l0 (i + 1)).2.map linkD := by
  rw [rndD, rndD1]
  simp only
  rw [← ha, ← hb, if_neg]
  unfold roomU
  by_cases h1 : ((degT (rndD n k l0 i).2 a : Nat) : Int) < 6
  · have h2 : ¬ ((degT (rndD n k l0 i).2 b : Nat) : Int) < 6 := by simpa [h1] using h
    simp; omega
  · simp; omega
def rndSt (n : Nat) (k : Int) (i : Nat) : St := ⟨0, tmOf [(0, int1 n), (5, links (rndD n k (docL n) i).2), (6, u64 (rndD n k (docL n) i).1), (7, int1 i)], .of [] 0⟩
theorem rnd_z1 (n : Nat) (k : Int) (l0 : List Lk) : IntKind.u64.wrap k = (rndD n k l0 0).1 := rfl
theorem rnd_z2 (n : Nat) (k : Int) : (docL n).map linkD = (rndD n k (docL n) 0).2.map linkD := rfl
theorem docL_eq (n : Nat) : putA [] (preL lineF (n - 1)) = docL n := rfl
attribute [local irreducible] putA preL putT rndD docL stepU IntKind.wrap
set_option maxRecDepth 20000 in
theorem rnd47_D (n : Nat) (hn : 1 ≤ n ∧ n ≤ 16) (k : Int) : DPure Try.prog 47 [int1 n, int1 k] (links (rndD n k (docL n) (2 * n)).2) := by
  have hline := line45_D n hn
  rw [docL_eq] at hline
  refine DFun.data (DFun.body Try.func47 rfl (by kernel_rfl) ?_)
  repeat' (first | with_reducible rfl | ((conv => whnf); first | refine And.intro ?_ ?_ | (intro h; first | exact Bool.noConfusion h | with_reducible exact h | (have ht : true = true := h; clear ht h) | skip) | ((with_reducible refine DWl.mark ?_); repeat' (first | refine DWl.cons ?_ ?_ | exact DWl.nil | exact DW.same _ rfl | exact DW.ref _ _ _ rfl | exact DW.arr _ _ _ rfl | exact DW.sub _ _ _ _ rfl | exact DW.nilLst _ | refine DW.aggl ?_ | refine DW.tupl ?_ | refine DW.clol ?_ ?_ | refine DW.int ?_ | refine DW.bool ?_ | refine DW.str ?_)) | ((with_reducible refine SCall.mark ?_); first | refine SCall.data (hline) rfl rfl ?_ | refine SCall.scal (hline) rfl rfl ?_ | refine SCall.data (step33_D _) rfl rfl ?_ | refine SCall.scal (step33_D _) rfl rfl ?_ | refine SCall.data (deg23_D _ _) rfl rfl ?_ | refine SCall.scal (deg23_D _ _) rfl rfl ?_ | refine SCall.data (put46_D _ _ _ ?_) rfl rfl ?_ | refine SCall.scal (put46_D _ _ _ ?_) rfl rfl ?_) | ((with_reducible refine PCall.mark ?_); first | refine PCall.mk (hline) rfl rfl ?_ | refine PCall.mk (step33_D _) rfl rfl ?_ | refine PCall.mk (deg23_D _ _) rfl rfl ?_ | refine PCall.mk (put46_D _ _ _ ?_) rfl rfl ?_) | ((with_reducible refine GCall.mark ?_); first | refine GCall.data (fun _ => hline) rfl rfl ?_ | refine GCall.scal (fun _ => hline) rfl rfl ?_ | refine GCall.data (fun _ => step33_D _) rfl rfl ?_ | refine GCall.scal (fun _ => step33_D _) rfl rfl ?_ | refine GCall.data (fun _ => deg23_D _ _) rfl rfl ?_ | refine GCall.scal (fun _ => deg23_D _ _) rfl rfl ?_ | refine GCall.data (fun _ => put46_D _ _ _ ?_) rfl rfl ?_ | refine GCall.scal (fun _ => put46_D _ _ _ ?_) rfl rfl ?_) | ((with_reducible refine MCall.mark ?_); first | refine MCall.data (fun _ => hline) rfl rfl ?_ | refine MCall.plain (PCall.mk (hline) rfl rfl ?_) | refine MCall.data (fun _ => step33_D _) rfl rfl ?_ | refine MCall.plain (PCall.mk (step33_D _) rfl rfl ?_) | refine MCall.data (fun _ => deg23_D _ _) rfl rfl ?_ | refine MCall.plain (PCall.mk (deg23_D _ _) rfl rfl ?_) | refine MCall.data (fun _ => put46_D _ _ _ ?_) rfl rfl ?_ | refine MCall.plain (PCall.mk (put46_D _ _ _ ?_) rfl rfl ?_)) | ((with_reducible refine Tri.mark ?_); first | refine Tri.loop (rndSt n k) (fun i => i ≤ 2 * n) (fun i => 2 * n - i) (0) (by kernel_rfl) (Weak.list [] [] ?_ ?_ ?_) ?_ ?_) | refine dcell_ok rfl ?_ | refine AppC.new ?_))
  all_goals first | (with_reducible refine enters_mark ?_; kernel_rfl) | (with_reducible refine boolT_mark ?_; kernel_rfl) | rfl | trivial | assumption | exact Nat.le_of_ble_eq_true rfl | (show entersB _ _ = true; kernel_rfl) | exact DW.same _ rfl | exact DW.ref _ _ _ rfl | exact DW.arr _ _ _ rfl | refine DW.int ?_ | refine dvb ?_ | refine dvi ?_ | exact OW.cells rfl rfl (DWl.same rfl) | exact Nat.zero_le _ | omega | skip
  all_goals repeat' (first | refine OW.cells rfl rfl ?_ | exact DW.nilArr _ rfl | refine DWl.cons ?_ ?_ | exact DWl.nil | exact DW.same _ rfl | exact DW.ref _ _ _ rfl | exact DW.arr _ _ _ rfl | exact DW.sub _ _ _ _ rfl | exact DW.nilLst _ | refine DW.aggl ?_ | refine DW.tupl ?_ | refine DW.clol ?_ ?_)
  all_goals try ((conv => whnf); with_reducible first | refine Round.mark ?_ | refine Tells.mark ?_ | refine Retold.mark ?_)
  all_goals try first | (show (_ : Bool) = _; simp_all; done) | (show (_ : Int) < _; simp at *; omega) | (show (_ : Int) ≤ _; simp at *; omega) | (show (_ : Nat) < _; simp at *; omega) | (show (_ : Nat) ≤ _; simp at *; omega)
  · exact DW.lstE (rnd_z2 n k)
  · exact rnd_z1 n k _
  · rw [wrapU (by omega) (by omega)] at h; omega
  · rw [wrapU (by omega) (by omega)] at h; omega
  · rename_i i hi e0
    have h1 := rndD_len n k (docL n) i
    have h2 := docL_len n
    omega
  · rename_i i hi e0
    have hin : i < 2 * n := by rw [wrapI (by omega) (by omega)] at e0; have := of_decide_eq_true e0; omega
    refine Round.go (· + 1) (by omega) (by show 2 * n - (i + 1) < 2 * n - i; omega) (Weak.list [] [] (by kernel_rfl) ?_ ?_)
    · repeat' (first | exact wsucc hin (by omega) | exact DW.lstE (rnd_yes (nodeE hn _) (nodeE hn _) h) | exact rnd_fst _ _ _ _ | exact DW.same _ rfl | exact DW.ref _ _ _ rfl | exact DW.arr _ _ _ rfl | exact OW.cells rfl rfl (DWl.same rfl) | refine OW.cells rfl rfl ?_ | refine DWl.cons ?_ ?_ | exact DWl.nil | exact DW.nilArr _ rfl | exact DW.nilLst _ | refine DW.clol ?_ ?_ | refine DW.aggl ?_ | refine DW.tupl ?_ | refine DW.int ?_ | refine DW.bool ?_ | refine DW.str ?_ | refine DW.arrE rfl ?_ | ((conv => whnf); first | refine And.intro ?_ ?_ | trivial))
    · repeat' (first | exact wsucc hin (by omega) | exact DW.lstE (rnd_yes (nodeE hn _) (nodeE hn _) h) | exact rnd_fst _ _ _ _ | exact DW.same _ rfl | exact DW.ref _ _ _ rfl | exact DW.arr _ _ _ rfl | exact OW.cells rfl rfl (DWl.same rfl) | refine OW.cells rfl rfl ?_ | refine DWl.cons ?_ ?_ | exact DWl.nil | exact DW.nilArr _ rfl | exact DW.nilLst _ | refine DW.clol ?_ ?_ | refine DW.aggl ?_ | refine DW.tupl ?_ | refine DW.int ?_ | refine DW.bool ?_ | refine DW.str ?_ | refine DW.arrE rfl ?_ | ((conv => whnf); first | refine And.intro ?_ ?_ | trivial))
  · rename_i i hi e0
    have hin : i < 2 * n := by rw [wrapI (by omega) (by omega)] at e0; have := of_decide_eq_true e0; omega
    refine Round.go (· + 1) (by omega) (by show 2 * n - (i + 1) < 2 * n - i; omega) (Weak.list [] [] (by kernel_rfl) ?_ ?_)
    · repeat' (first | exact wsucc hin (by omega) | exact DW.lstE (rnd_no (nodeE hn _) (nodeE hn _) h) | exact rnd_fst _ _ _ _ | exact DW.same _ rfl | exact DW.ref _ _ _ rfl | exact DW.arr _ _ _ rfl | exact OW.cells rfl rfl (DWl.same rfl) | refine OW.cells rfl rfl ?_ | refine DWl.cons ?_ ?_ | exact DWl.nil | exact DW.nilArr _ rfl | exact DW.nilLst _ | refine DW.clol ?_ ?_ | refine DW.aggl ?_ | refine DW.tupl ?_ | refine DW.int ?_ | refine DW.bool ?_ | refine DW.str ?_ | refine DW.arrE rfl ?_ | ((conv => whnf); first | refine And.intro ?_ ?_ | trivial))
    · repeat' (first | exact wsucc hin (by omega) | exact DW.lstE (rnd_no (nodeE hn _) (nodeE hn _) h) | exact rnd_fst _ _ _ _ | exact DW.same _ rfl | exact DW.ref _ _ _ rfl | exact DW.arr _ _ _ rfl | exact OW.cells rfl rfl (DWl.same rfl) | refine OW.cells rfl rfl ?_ | refine DWl.cons ?_ ?_ | exact DWl.nil | exact DW.nilArr _ rfl | exact DW.nilLst _ | refine DW.clol ?_ ?_ | refine DW.aggl ?_ | refine DW.tupl ?_ | refine DW.int ?_ | refine DW.bool ?_ | refine DW.str ?_ | refine DW.arrE rfl ?_ | ((conv => whnf); first | refine And.intro ?_ ?_ | trivial))
  · rename_i i hi
    have : i = 2 * n := by rw [wrapI (by omega) (by omega)] at h; have := of_decide_eq_false h; omega
    subst this
    conv => whnf
    exact Tells.mk (DW.same _ rfl)
theorem rnd31_D (n : Nat) (hn : 1 ≤ n ∧ n ≤ 16) (k : Int) : DPure Try.prog 31 [int1 7, int1 n, int1 k] (links (rndD n k (docL n) (2 * n)).2) := by
  refine DFun.data (DFun.body Try.func31 rfl (by kernel_rfl) ?_)
  repeat' (first | with_reducible rfl | ((conv => whnf); first | refine And.intro ?_ ?_ | (intro h; first | exact Bool.noConfusion h | with_reducible exact h | (refine not_t h ?_; rfl) | (refine not_f h ?_; rfl) | (have ht : true = true := h; clear ht h) | skip) | ((with_reducible refine DWl.mark ?_); repeat' (first | refine DWl.cons ?_ ?_ | exact DWl.nil | exact DW.same _ rfl | exact DW.ref _ _ _ rfl | exact DW.arr _ _ _ rfl | exact DW.sub _ _ _ _ rfl | exact DW.nilLst _ | refine DW.aggl ?_ | refine DW.tupl ?_ | refine DW.clol ?_ ?_ | refine DW.int ?_ | refine DW.bool ?_ | refine DW.str ?_)) | ((with_reducible refine SCall.mark ?_); first | refine SCall.data (rnd47_D n hn k) rfl rfl ?_ | refine SCall.scal (rnd47_D n hn k) rfl rfl ?_) | ((with_reducible refine PCall.mark ?_); first | refine PCall.mk (rnd47_D n hn k) rfl rfl ?_) | ((with_reducible refine GCall.mark ?_); first | refine GCall.data (fun _ => rnd47_D n hn k) rfl rfl ?_ | refine GCall.scal (fun _ => rnd47_D n hn k) rfl rfl ?_) | ((with_reducible refine MCall.mark ?_); first | refine MCall.data (fun _ => rnd47_D n hn k) rfl rfl ?_ | refine MCall.plain (PCall.mk (rnd47_D n hn k) rfl rfl ?_)) | refine dcell_ok rfl ?_ | refine AppC.new ?_))
  all_goals first | (with_reducible refine enters_mark ?_; kernel_rfl) | (with_reducible refine boolT_mark ?_; kernel_rfl) | rfl | trivial | assumption | exact Nat.le_of_ble_eq_true rfl | (show entersB _ _ = true; kernel_rfl) | exact DW.same _ rfl | exact DW.ref _ _ _ rfl | exact DW.arr _ _ _ rfl | refine DW.int ?_ | refine dvb ?_ | refine dvi ?_ | exact OW.cells rfl rfl (DWl.same rfl) | exact Nat.zero_le _ | omega | skip
  all_goals repeat' (first | refine OW.cells rfl rfl ?_ | exact DW.nilArr _ rfl | refine DWl.cons ?_ ?_ | exact DWl.nil | exact DW.same _ rfl | exact DW.ref _ _ _ rfl | exact DW.arr _ _ _ rfl | exact DW.sub _ _ _ _ rfl | exact DW.nilLst _ | refine DW.aggl ?_ | refine DW.tupl ?_ | refine DW.clol ?_ ?_)
  all_goals try ((conv => whnf); with_reducible first | refine Round.mark ?_ | refine Tells.mark ?_ | refine Retold.mark ?_)
  all_goals try first | (show (_ : Bool) = _; simp_all; done) | (show (_ : Int) < _; simp at *; omega) | (show (_ : Int) ≤ _; simp at *; omega) | (show (_ : Nat) < _; simp at *; omega) | (show (_ : Nat) ≤ _; simp at *; omega)
  conv => whnf
  exact Tells.mk (DW.same _ rfl)
/-- The document's Links of a shape that has these pairs. -/
def docR (n : Nat) (l : List Lk) : List Lk × Int := if degOk n l = true then (l, 0) else ([], 43)
theorem docR_ok {n : Nat} {l : List Lk} (h : ∀ v : Nat, v < n → degT l v ≤ 6) : docR n l = (l, 0) := by rw [docR, if_pos (degOk_iff.2 h)]
theorem docR_no {n : Nat} {l : List Lk} {v : Nat} (hv : v < n) (h : 6 < degT l v) : docR n l = ([], 43) := by
  rw [docR, if_neg (fun e => by have := degOk_iff.1 e v hv; omega)]
def st9 (n : Nat) (l : List Lk) (v : Nat) : St := ⟨0, tmOf [(1, int1 n), (8, links l), (9, int1 v)], .of [] 0⟩
theorem headK_iff {s : Int} : (bif decide (s < 1) then true else decide (7 < s)) = true ↔ s < 1 ∨ 7 < s := by simp
theorem headN_iff {s n k : Int} : (bif bif decide (n < 1) then true else decide (16 < n) then true else bif bif s == 5 then true else s == 6 then decide (k < 1) else false) = true ↔ (n < 1 ∨ 16 < n) ∨ ((s = 5 ∨ s = 6) ∧ k < 1) := by simp
set_option maxRecDepth 20000 in
theorem doc9_D (shape : Int) (hs : 1 ≤ shape ∧ shape ≤ 7) (n : Nat) (hn : 1 ≤ n ∧ n ≤ 16) (k : Int) (hk : (shape = 5 ∨ shape = 6) → 1 ≤ k) (l : List Lk) (hl : DPure Try.prog 31 [int1 shape, int1 n, int1 k] (links l)) :
    DPure Try.prog 9 [int1 shape, int1 n, int1 k] (.tup [links (docR n l).1, int1 (docR n l).2]) := by
  refine DFun.data (DFun.body Try.func9 rfl (by kernel_rfl) ?_)
  repeat' (first | with_reducible rfl | ((conv => whnf); first | refine And.intro ?_ ?_ | (intro h; first | exact Bool.noConfusion h | with_reducible exact h | (have ht : true = true := h; clear ht h) | skip) | ((with_reducible refine DWl.mark ?_); repeat' (first | refine DWl.cons ?_ ?_ | exact DWl.nil | exact DW.same _ rfl | exact DW.ref _ _ _ rfl | exact DW.arr _ _ _ rfl | exact DW.sub _ _ _ _ rfl | exact DW.nilLst _ | refine DW.aggl ?_ | refine DW.tupl ?_ | refine DW.clol ?_ ?_ | refine DW.int ?_ | refine DW.bool ?_ | refine DW.str ?_)) | ((with_reducible refine SCall.mark ?_); first | refine SCall.data (hl) rfl rfl ?_ | refine SCall.scal (hl) rfl rfl ?_ | refine SCall.data (deg23_D _ _) rfl rfl ?_ | refine SCall.scal (deg23_D _ _) rfl rfl ?_) | ((with_reducible refine PCall.mark ?_); first | refine PCall.mk (hl) rfl rfl ?_ | refine PCall.mk (deg23_D _ _) rfl rfl ?_) | ((with_reducible refine GCall.mark ?_); first | refine GCall.data (fun _ => hl) rfl rfl ?_ | refine GCall.scal (fun _ => hl) rfl rfl ?_ | refine GCall.data (fun _ => deg23_D _ _) rfl rfl ?_ | refine GCall.scal (fun _ => deg23_D _ _) rfl rfl ?_) | ((with_reducible refine MCall.mark ?_); first | refine MCall.data (fun _ => hl) rfl rfl ?_ | refine MCall.plain (PCall.mk (hl) rfl rfl ?_) | refine MCall.data (fun _ => deg23_D _ _) rfl rfl ?_ | refine MCall.plain (PCall.mk (deg23_D _ _) rfl rfl ?_)) | ((with_reducible refine Tri.mark ?_); first | refine Tri.loop (st9 n l) (fun v => v ≤ n ∧ ∀ u : Nat, u < v → degT l u ≤ 6) (fun v => n - v) (0) (by kernel_rfl) (Weak.list [] [] ?_ ?_ ?_) ?_ ?_) | refine dcell_ok rfl ?_ | refine AppC.new ?_))
  all_goals first | (with_reducible refine enters_mark ?_; kernel_rfl) | (with_reducible refine boolT_mark ?_; kernel_rfl) | rfl | trivial | assumption | exact Nat.le_of_ble_eq_true rfl | (show entersB _ _ = true; kernel_rfl) | exact DW.same _ rfl | exact DW.ref _ _ _ rfl | exact DW.arr _ _ _ rfl | refine DW.int ?_ | refine dvb ?_ | refine dvi ?_ | exact OW.cells rfl rfl (DWl.same rfl) | exact Nat.zero_le _ | omega | skip
  all_goals repeat' (first | refine OW.cells rfl rfl ?_ | exact DW.nilArr _ rfl | refine DWl.cons ?_ ?_ | exact DWl.nil | exact DW.same _ rfl | exact DW.ref _ _ _ rfl | exact DW.arr _ _ _ rfl | exact DW.sub _ _ _ _ rfl | exact DW.nilLst _ | refine DW.aggl ?_ | refine DW.tupl ?_ | refine DW.clol ?_ ?_)
  all_goals try ((conv => whnf); with_reducible first | refine Round.mark ?_ | refine Tells.mark ?_ | refine Retold.mark ?_)
  all_goals try first | (show (_ : Bool) = _; simp_all; done) | (show (_ : Int) < _; simp at *; omega) | (show (_ : Int) ≤ _; simp at *; omega) | (show (_ : Nat) < _; simp at *; omega) | (show (_ : Nat) ≤ _; simp at *; omega)
  · exfalso
    rw [headK_iff] at h; omega
  · exfalso
    rw [headN_iff] at h; omega
  · rename_i v hv e0
    conv => whnf
    exact Tells.of (r1 := .tup [links [], int1 43]) (by rw [docR_no (lt_int e0) (by have := of_decide_eq_true h; omega)]) (Tells.mk (DW.tupl (DWl.cons (DW.nilLst _) (DWl.cons (DW.same _ rfl) DWl.nil))))
  · rename_i v hv e0
    have hvn := lt_int e0
    refine Round.go (· + 1) ⟨hvn, fun u hu => ?_⟩ (by show n - (v + 1) < n - v; omega) (Weak.list [] [] (by kernel_rfl) ?_ ?_)
    · rcases Nat.lt_succ_iff_lt_or_eq.1 hu with h5 | h5
      · exact hv.2 u h5
      · subst h5; have := of_decide_eq_false h; omega
    · repeat' (first | exact wsucc hvn (by omega) | exact DW.same _ rfl | exact DW.ref _ _ _ rfl | exact DW.arr _ _ _ rfl | exact OW.cells rfl rfl (DWl.same rfl) | refine OW.cells rfl rfl ?_ | refine DWl.cons ?_ ?_ | exact DWl.nil | exact DW.nilArr _ rfl | exact DW.nilLst _ | refine DW.clol ?_ ?_ | refine DW.aggl ?_ | refine DW.tupl ?_ | refine DW.int ?_ | refine DW.bool ?_ | refine DW.str ?_ | refine DW.arrE rfl ?_ | ((conv => whnf); first | refine And.intro ?_ ?_ | trivial))
    · repeat' (first | exact wsucc hvn (by omega) | exact DW.same _ rfl | exact DW.ref _ _ _ rfl | exact DW.arr _ _ _ rfl | exact OW.cells rfl rfl (DWl.same rfl) | refine OW.cells rfl rfl ?_ | refine DWl.cons ?_ ?_ | exact DWl.nil | exact DW.nilArr _ rfl | exact DW.nilLst _ | refine DW.clol ?_ ?_ | refine DW.aggl ?_ | refine DW.tupl ?_ | refine DW.int ?_ | refine DW.bool ?_ | refine DW.str ?_ | refine DW.arrE rfl ?_ | ((conv => whnf); first | refine And.intro ?_ ?_ | trivial))
  · rename_i v hv
    have hvn : v = n := by have := ge_int h; have := hv.1; omega
    conv => whnf
    exact Tells.of (r1 := .tup [links l, int1 0]) (by rw [docR_ok (by rw [← hvn]; exact hv.2)]) (Tells.mk (DW.tupl (DWl.cons (DW.same _ rfl) (DWl.cons (DW.same _ rfl) DWl.nil))))
theorem doc9_kind (shape n k : Int) (hs : shape < 1 ∨ 7 < shape) : DPure Try.prog 9 [int1 shape, int1 n, int1 k] (.tup [links [], int1 46]) := by
  refine DFun.data (DFun.body Try.func9 rfl (by kernel_rfl) ?_)
  repeat' (first | with_reducible rfl | ((conv => whnf); first | refine And.intro ?_ ?_ | (intro h; first | exact Bool.noConfusion h | with_reducible exact h | (exfalso; rw [← Bool.not_eq_true, headK_iff] at h; omega) | (have ht : true = true := h; clear ht h) | skip) | ((with_reducible refine DWl.mark ?_); repeat' (first | refine DWl.cons ?_ ?_ | exact DWl.nil | exact DW.same _ rfl | exact DW.ref _ _ _ rfl | exact DW.arr _ _ _ rfl | exact DW.sub _ _ _ _ rfl | exact DW.nilLst _ | refine DW.aggl ?_ | refine DW.tupl ?_ | refine DW.clol ?_ ?_ | refine DW.int ?_ | refine DW.bool ?_ | refine DW.str ?_)) | refine dcell_ok rfl ?_ | refine AppC.new ?_))
  all_goals first | (with_reducible refine enters_mark ?_; kernel_rfl) | (with_reducible refine boolT_mark ?_; kernel_rfl) | rfl | trivial | assumption | exact Nat.le_of_ble_eq_true rfl | (show entersB _ _ = true; kernel_rfl) | exact DW.same _ rfl | exact DW.ref _ _ _ rfl | exact DW.arr _ _ _ rfl | refine DW.int ?_ | refine dvb ?_ | refine dvi ?_ | exact OW.cells rfl rfl (DWl.same rfl) | exact Nat.zero_le _ | omega | skip
  all_goals repeat' (first | refine OW.cells rfl rfl ?_ | exact DW.nilArr _ rfl | refine DWl.cons ?_ ?_ | exact DWl.nil | exact DW.same _ rfl | exact DW.ref _ _ _ rfl | exact DW.arr _ _ _ rfl | exact DW.sub _ _ _ _ rfl | exact DW.nilLst _ | refine DW.aggl ?_ | refine DW.tupl ?_ | refine DW.clol ?_ ?_)
  all_goals try ((conv => whnf); with_reducible first | refine Round.mark ?_ | refine Tells.mark ?_ | refine Retold.mark ?_)
  all_goals try first | (show (_ : Bool) = _; simp_all; done) | (show (_ : Int) < _; simp at *; omega) | (show (_ : Int) ≤ _; simp at *; omega) | (show (_ : Nat) < _; simp at *; omega) | (show (_ : Nat) ≤ _; simp at *; omega)
  conv => whnf
  exact Tells.mk (DW.tupl (DWl.cons (DW.nilLst _) (DWl.cons (DW.same _ rfl) DWl.nil)))
theorem doc9_num (shape n k : Int) (hs : 1 ≤ shape ∧ shape ≤ 7) (hn : (n < 1 ∨ 16 < n) ∨ ((shape = 5 ∨ shape = 6) ∧ k < 1)) : DPure Try.prog 9 [int1 shape, int1 n, int1 k] (.tup [links [], int1 31]) := by
  refine DFun.data (DFun.body Try.func9 rfl (by kernel_rfl) ?_)
  repeat' (first | with_reducible rfl | ((conv => whnf); first | refine And.intro ?_ ?_ | (intro h; first | exact Bool.noConfusion h | with_reducible exact h | (exfalso; rw [headK_iff] at h; omega) | (exfalso; rw [← Bool.not_eq_true, headN_iff] at h; omega) | (have ht : true = true := h; clear ht h) | skip) | ((with_reducible refine DWl.mark ?_); repeat' (first | refine DWl.cons ?_ ?_ | exact DWl.nil | exact DW.same _ rfl | exact DW.ref _ _ _ rfl | exact DW.arr _ _ _ rfl | exact DW.sub _ _ _ _ rfl | exact DW.nilLst _ | refine DW.aggl ?_ | refine DW.tupl ?_ | refine DW.clol ?_ ?_ | refine DW.int ?_ | refine DW.bool ?_ | refine DW.str ?_)) | refine dcell_ok rfl ?_ | refine AppC.new ?_))
  all_goals first | (with_reducible refine enters_mark ?_; kernel_rfl) | (with_reducible refine boolT_mark ?_; kernel_rfl) | rfl | trivial | assumption | exact Nat.le_of_ble_eq_true rfl | (show entersB _ _ = true; kernel_rfl) | exact DW.same _ rfl | exact DW.ref _ _ _ rfl | exact DW.arr _ _ _ rfl | refine DW.int ?_ | refine dvb ?_ | refine dvi ?_ | exact OW.cells rfl rfl (DWl.same rfl) | exact Nat.zero_le _ | omega | skip
  all_goals repeat' (first | refine OW.cells rfl rfl ?_ | exact DW.nilArr _ rfl | refine DWl.cons ?_ ?_ | exact DWl.nil | exact DW.same _ rfl | exact DW.ref _ _ _ rfl | exact DW.arr _ _ _ rfl | exact DW.sub _ _ _ _ rfl | exact DW.nilLst _ | refine DW.aggl ?_ | refine DW.tupl ?_ | refine DW.clol ?_ ?_)
  all_goals try ((conv => whnf); with_reducible first | refine Round.mark ?_ | refine Tells.mark ?_ | refine Retold.mark ?_)
  all_goals try first | (show (_ : Bool) = _; simp_all; done) | (show (_ : Int) < _; simp at *; omega) | (show (_ : Int) ≤ _; simp at *; omega) | (show (_ : Nat) < _; simp at *; omega) | (show (_ : Nat) ≤ _; simp at *; omega)
  conv => whnf
  exact Tells.mk (DW.tupl (DWl.cons (DW.nilLst _) (DWl.cons (DW.same _ rfl) DWl.nil)))
end Go.Proofs.Ytphgcgggbbcjgaa

/- Links that gives an error. -/
namespace Go.Proofs.Ytphgcgggbbcjgaa
open Go.RowKit Go.Dl
attribute [local irreducible] Tri SCall DFun QSem PCall GCall MCall Round Weak dloadE OW DWl Tells IntKind.wrap Retold ESem

theorem dq_look0 {s : Sto} {ρ : Operand → DV} {m k : Operand} {x : Int} {g : Bool} {K : DV → Prop} (hm : ρ m = .mp shE) (hk : ρ k = .v (.int .i64 x))
    (h : Instr.findNow (.int .i64) (.int .i64 x) shE.toList 0 = some none) (hK : K (.tup [.v .nilFunc, .v (.bool false)])) : ∃ d, (g = true → QSem Try.prog s (.lookup 52 m k true) ρ d) ∧ K d :=
  dq_lookup (.tuple #[.nilFunc, .bool false]) hm hk (fun b clk w hb => look_run x b clk w _ false hb (.inr ⟨rfl, rfl, h⟩)) (fun w F β => .tup _ [.nilFunc, .bool false] rfl (fun j d y h1 h2 => by
    match j, h1, h2 with
    | 0, h1, h2 => cases h1; cases h2; exact .data (.v _ rfl)
    | 1, h1, h2 => cases h1; cases h2; exact .data (.v _ rfl))) hK
theorem links_kind (shape n k : Int) (hs : shape < 1 ∨ 7 < shape) : DPure Try.prog 8 [int1 shape, int1 n, int1 k] (.tup [links [], int1 46]) := by
  refine DFun.data (DFun.body Try.func8 rfl (by kernel_rfl) ?_)
  repeat' (first | with_reducible rfl | ((conv => whnf); first | refine And.intro ?_ ?_ | (intro h; first | exact Bool.noConfusion h | with_reducible exact h | (refine not_t h ?_; rfl) | (refine not_f h ?_; rfl) | (have ht : true = true := h; clear ht h) | skip) | ((with_reducible refine DWl.mark ?_); repeat' (first | refine DWl.cons ?_ ?_ | exact DWl.nil | exact DW.same _ rfl | exact DW.ref _ _ _ rfl | exact DW.arr _ _ _ rfl | exact DW.sub _ _ _ _ rfl | exact DW.nilLst _ | refine DW.aggl ?_ | refine DW.tupl ?_ | refine DW.clol ?_ ?_ | refine DW.int ?_ | refine DW.bool ?_ | refine DW.str ?_)) | ((with_reducible refine SCall.mark ?_); first | refine SCall.data (shapes_D) rfl rfl ?_) | ((with_reducible refine GCall.mark ?_); first | refine GCall.data (fun _ => shapes_D) rfl rfl ?_) | ((with_reducible refine MCall.mark ?_); first | refine MCall.data (fun _ => shapes_D) rfl rfl ?_) | ((with_reducible refine ex_mark ?_); first | refine dq_look0 rfl rfl (shapes_no hs) ?_) | refine dcell_ok rfl ?_ | refine AppC.new ?_))
  all_goals first | (with_reducible refine enters_mark ?_; kernel_rfl) | (with_reducible refine boolT_mark ?_; kernel_rfl) | rfl | trivial | assumption | exact Nat.le_of_ble_eq_true rfl | (show entersB _ _ = true; kernel_rfl) | exact DW.same _ rfl | exact DW.ref _ _ _ rfl | exact DW.arr _ _ _ rfl | refine DW.int ?_ | refine dvb ?_ | refine dvi ?_ | exact OW.cells rfl rfl (DWl.same rfl) | exact Nat.zero_le _ | omega | skip
  all_goals repeat' (first | refine OW.cells rfl rfl ?_ | exact DW.nilArr _ rfl | refine DWl.cons ?_ ?_ | exact DWl.nil | exact DW.same _ rfl | exact DW.ref _ _ _ rfl | exact DW.arr _ _ _ rfl | exact DW.sub _ _ _ _ rfl | exact DW.nilLst _ | refine DW.aggl ?_ | refine DW.tupl ?_ | refine DW.clol ?_ ?_)
  all_goals try ((conv => whnf); with_reducible first | refine Round.mark ?_ | refine Tells.mark ?_ | refine Retold.mark ?_)
  all_goals try first | (show (_ : Bool) = _; simp_all; done) | (show (_ : Int) < _; simp at *; omega) | (show (_ : Int) ≤ _; simp at *; omega) | (show (_ : Nat) < _; simp at *; omega) | (show (_ : Nat) ≤ _; simp at *; omega)
  conv => whnf
  exact Tells.mk (DW.tupl (DWl.cons (DW.nilLst _) (DWl.cons (DW.same _ rfl) DWl.nil)))
theorem find_sh {x : Int} (h : 1 ≤ x ∧ x ≤ 7) : ∃ i f, Instr.findNow (.int .i64) (.int .i64 x) shE.toList 0 = some (some (i, fnV f)) := by
  have : x = 1 ∨ x = 2 ∨ x = 3 ∨ x = 4 ∨ x = 5 ∨ x = 6 ∨ x = 7 := by omega
  rcases this with rfl | rfl | rfl | rfl | rfl | rfl | rfl
  · exact ⟨0, 36, rfl⟩
  · exact ⟨1, 37, rfl⟩
  · exact ⟨2, 38, rfl⟩
  · exact ⟨3, 39, rfl⟩
  · exact ⟨4, 40, rfl⟩
  · exact ⟨5, 41, rfl⟩
  · exact ⟨6, 42, rfl⟩
theorem headP_iff {s n k : Int} : (bif bif decide (n < 1) then true else decide (16 < n) then true else bif decide (k < 1) then bif s == 5 then true else s == 6 else false) = true ↔ (n < 1 ∨ 16 < n) ∨ ((s = 5 ∨ s = 6) ∧ k < 1) := by
  simp
  constructor
  · rintro (h | h)
    · exact .inl h
    · exact .inr ⟨h.2, h.1⟩
  · rintro (h | h)
    · exact .inl h
    · exact .inr ⟨h.2, h.1⟩
theorem links_num (shape n k : Int) (hs : 1 ≤ shape ∧ shape ≤ 7) (hn : (n < 1 ∨ 16 < n) ∨ ((shape = 5 ∨ shape = 6) ∧ k < 1)) : DPure Try.prog 8 [int1 shape, int1 n, int1 k] (.tup [links [], int1 31]) := by
  obtain ⟨i, f, hf⟩ := find_sh hs
  refine DFun.data (DFun.body Try.func8 rfl (by kernel_rfl) ?_)
  repeat' (first | with_reducible rfl | ((conv => whnf); first | refine And.intro ?_ ?_ | (intro h; first | exact Bool.noConfusion h | with_reducible exact h | (refine not_t h ?_; rfl) | (refine not_f h ?_; rfl) | (exfalso; rw [← Bool.not_eq_true, headP_iff] at h; exact h hn) | (have ht : true = true := h; clear ht h) | skip) | ((with_reducible refine DWl.mark ?_); repeat' (first | refine DWl.cons ?_ ?_ | exact DWl.nil | exact DW.same _ rfl | exact DW.ref _ _ _ rfl | exact DW.arr _ _ _ rfl | exact DW.sub _ _ _ _ rfl | exact DW.nilLst _ | refine DW.aggl ?_ | refine DW.tupl ?_ | refine DW.clol ?_ ?_ | refine DW.int ?_ | refine DW.bool ?_ | refine DW.str ?_)) | ((with_reducible refine SCall.mark ?_); first | refine SCall.data (shapes_D) rfl rfl ?_) | ((with_reducible refine GCall.mark ?_); first | refine GCall.data (fun _ => shapes_D) rfl rfl ?_) | ((with_reducible refine MCall.mark ?_); first | refine MCall.data (fun _ => shapes_D) rfl rfl ?_) | ((with_reducible refine ex_mark ?_); first | refine dq_look f i rfl rfl hf ?_) | refine dcell_ok rfl ?_ | refine AppC.new ?_))
  all_goals first | (with_reducible refine enters_mark ?_; kernel_rfl) | (with_reducible refine boolT_mark ?_; kernel_rfl) | rfl | trivial | assumption | exact Nat.le_of_ble_eq_true rfl | (show entersB _ _ = true; kernel_rfl) | exact DW.same _ rfl | exact DW.ref _ _ _ rfl | exact DW.arr _ _ _ rfl | refine DW.int ?_ | refine dvb ?_ | refine dvi ?_ | exact OW.cells rfl rfl (DWl.same rfl) | exact Nat.zero_le _ | omega | skip
  all_goals repeat' (first | refine OW.cells rfl rfl ?_ | exact DW.nilArr _ rfl | refine DWl.cons ?_ ?_ | exact DWl.nil | exact DW.same _ rfl | exact DW.ref _ _ _ rfl | exact DW.arr _ _ _ rfl | exact DW.sub _ _ _ _ rfl | exact DW.nilLst _ | refine DW.aggl ?_ | refine DW.tupl ?_ | refine DW.clol ?_ ?_)
  all_goals try ((conv => whnf); with_reducible first | refine Round.mark ?_ | refine Tells.mark ?_ | refine Retold.mark ?_)
  all_goals try first | (show (_ : Bool) = _; simp_all; done) | (show (_ : Int) < _; simp at *; omega) | (show (_ : Int) ≤ _; simp at *; omega) | (show (_ : Nat) < _; simp at *; omega) | (show (_ : Nat) ≤ _; simp at *; omega)
  conv => whnf
  exact Tells.mk (DW.tupl (DWl.cons (DW.nilLst _) (DWl.cons (DW.same _ rfl) DWl.nil)))
end Go.Proofs.Ytphgcgggbbcjgaa

/- Is a pair among pairs: slices.Contains. -/
namespace Go.Proofs.Ytphgcgggbbcjgaa
open Go.RowKit Go.Dl
attribute [local irreducible] Tri SCall DFun QSem PCall GCall MCall Round Weak dloadE OW DWl Tells IntKind.wrap Retold ESem

def idxF (x : Lk) : List Lk → Nat → Int
  | [], _ => -1
  | y :: t, i => if x = y then i else idxF x t (i + 1)
theorem drop_at {l : List Lk} {i : Nat} (h : i < l.length) : l.drop i = l.getD i lk0 :: l.drop (i + 1) := by
  rw [List.getD_eq_getElem?_getD, List.getElem?_eq_getElem h]; exact List.drop_eq_getElem_cons h
theorem idx_yes {l : List Lk} {x : Lk} {i : Nat} (h : i < l.length) (e : x = l.getD i lk0) : idxF x (l.drop i) i = i := by
  rw [drop_at h, idxF, if_pos e]
theorem idx_no {l : List Lk} {x : Lk} {i : Nat} (h : i < l.length) (e : ¬ x = l.getD i lk0) : idxF x (l.drop i) i = idxF x (l.drop (i + 1)) (i + 1) := by
  rw [drop_at h, idxF, if_neg e]
theorem idx_end {l : List Lk} {x : Lk} {i : Nat} (h : l.length ≤ i) : idxF x (l.drop i) i = -1 := by
  rw [List.drop_of_length_le h]; rfl
theorem idx_mem (x : Lk) (l : List Lk) : ∀ i : Nat, (0 ≤ idxF x l i ↔ x ∈ l) := by
  induction l with
  | nil => intro i; simp [idxF]
  | cons y l ih =>
    intro i
    unfold idxF
    by_cases h : x = y
    · rw [if_pos h]; simp [h]
    · rw [if_neg h, ih]; simp [h]
def idxSt (l : List Lk) (x : Lk) (i : Nat) : St := ⟨0, tmOf [(0, links l), (3, .ref 0 0), (7, int1 l.length), (8, int1 i)], .of [(0, ⟨44, 2, linkD x⟩)] 1⟩
set_option maxRecDepth 20000 in
theorem index69_D (l : List Lk) (x : Lk) : DPure Try.prog 69 [links l, .agg (linkD x)] (int1 (idxF x l 0)) := by
  refine DFun.bound 0 rfl fun ha => ?_
  have ha : l.length ≤ 9223372036854775807 := by simpa [maxLen] using ha
  refine DFun.body Try.func69 rfl (by kernel_rfl) ?_
  repeat' (first | with_reducible rfl | ((conv => whnf); first | refine And.intro ?_ ?_ | (intro h; first | exact Bool.noConfusion h | with_reducible exact h | (have ht : true = true := h; clear ht h) | skip) | ((with_reducible refine DWl.mark ?_); repeat' (first | refine DWl.cons ?_ ?_ | exact DWl.nil | exact DW.same _ rfl | exact DW.ref _ _ _ rfl | exact DW.arr _ _ _ rfl | exact DW.sub _ _ _ _ rfl | exact DW.nilLst _ | refine DW.aggl ?_ | refine DW.tupl ?_ | refine DW.clol ?_ ?_ | refine DW.int ?_ | refine DW.bool ?_ | refine DW.str ?_)) | ((with_reducible refine Tri.mark ?_); first | refine Tri.loop (idxSt l x) (fun i => i ≤ l.length ∧ idxF x l 0 = idxF x (l.drop i) i) (fun i => l.length - i) (0) (by kernel_rfl) (Weak.list [(0, some 0)] [] ?_ ?_ ?_) ?_ ?_) | ((with_reducible refine Round.mark ?_); first | refine Round.go ((· + 1)) ?_ ?_ (Weak.list [(0, some 0)] [] ?_ ?_ ?_)) | ((with_reducible refine ex_mark ?_); first | refine dq_eql k44 ?_ rfl ?_ rfl rfl ?_ | refine dq_neq k44 ?_ rfl ?_ rfl rfl ?_) | refine dloadE_map (lk0) ?_ ?_ | refine dcell_ok rfl ?_ | refine AppC.new ?_))
  all_goals first | (with_reducible refine enters_mark ?_; kernel_rfl) | (with_reducible refine boolT_mark ?_; kernel_rfl) | rfl | trivial | assumption | exact Nat.le_of_ble_eq_true rfl | (show entersB _ _ = true; kernel_rfl) | exact DW.same _ rfl | exact DW.ref _ _ _ rfl | exact DW.arr _ _ _ rfl | refine DW.int ?_ | refine dvb ?_ | refine dvi ?_ | exact OW.cells rfl rfl (DWl.same rfl) | skip
  all_goals repeat' (first | exact OW.cells rfl rfl (DWl.same rfl) | refine OW.cells rfl rfl ?_ | exact DW.nilArr _ rfl | refine DW.clol ?_ ?_ | refine DWl.cons ?_ ?_ | exact DWl.nil | exact DW.same _ rfl | exact DW.ref _ _ _ rfl | exact DW.arr _ _ _ rfl | refine DW.int ?_)
  all_goals try (simp_all; done)
  all_goals try (simp at *; omega)
  · rename_i i hi e0
    exact (hi.2.trans (idx_yes (lt_int e0) (of_decide_eq_true (lk_eq h).symm))).symm
  · rename_i i hi e0
    exact hi.2.trans (idx_no (lt_int e0) (of_decide_eq_false (lk_eq h).symm))
  · rename_i i hi e0
    exact wsucc (lt_int e0) ha
  · rename_i i hi
    exact (hi.2.trans (idx_end ((by have := ge_int h; exact this)))).symm
set_option maxRecDepth 20000 in
theorem contains57_D (l : List Lk) (x : Lk) : DPure Try.prog 57 [links l, .agg (linkD x)] (.v (.bool (decide (x ∈ l)))) := by
  refine DFun.data (DFun.body Try.func57 rfl (by kernel_rfl) ?_)
  repeat' (first | with_reducible rfl | ((conv => whnf); first | refine And.intro ?_ ?_ | (intro h; first | exact Bool.noConfusion h | with_reducible exact h | (have ht : true = true := h; clear ht h) | skip) | ((with_reducible refine DWl.mark ?_); repeat' (first | refine DWl.cons ?_ ?_ | exact DWl.nil | exact DW.same _ rfl | exact DW.ref _ _ _ rfl | exact DW.arr _ _ _ rfl | exact DW.sub _ _ _ _ rfl | exact DW.nilLst _ | refine DW.aggl ?_ | refine DW.tupl ?_ | refine DW.clol ?_ ?_ | refine DW.int ?_ | refine DW.bool ?_ | refine DW.str ?_)) | ((with_reducible refine SCall.mark ?_); first | refine SCall.data (index69_D l x) rfl rfl ?_ | refine SCall.scal (index69_D l x) rfl rfl ?_) | ((with_reducible refine PCall.mark ?_); first | refine PCall.mk (index69_D l x) rfl rfl ?_) | ((with_reducible refine GCall.mark ?_); first | refine GCall.data (fun _ => index69_D l x) rfl rfl ?_ | refine GCall.scal (fun _ => index69_D l x) rfl rfl ?_) | ((with_reducible refine MCall.mark ?_); first | refine MCall.data (fun _ => index69_D l x) rfl rfl ?_ | refine MCall.plain (PCall.mk (index69_D l x) rfl rfl ?_)) | refine dcell_ok rfl ?_ | refine AppC.new ?_))
  all_goals first | (with_reducible refine enters_mark ?_; kernel_rfl) | (with_reducible refine boolT_mark ?_; kernel_rfl) | rfl | trivial | assumption | exact Nat.le_of_ble_eq_true rfl | (show entersB _ _ = true; kernel_rfl) | exact DW.same _ rfl | exact DW.ref _ _ _ rfl | exact DW.arr _ _ _ rfl | refine DW.int ?_ | refine dvb ?_ | refine dvi ?_ | exact OW.cells rfl rfl (DWl.same rfl) | exact Nat.zero_le _ | omega | skip
  all_goals repeat' (first | refine OW.cells rfl rfl ?_ | exact DW.nilArr _ rfl | refine DWl.cons ?_ ?_ | exact DWl.nil | exact DW.same _ rfl | exact DW.ref _ _ _ rfl | exact DW.arr _ _ _ rfl | exact DW.sub _ _ _ _ rfl | exact DW.nilLst _ | refine DW.aggl ?_ | refine DW.tupl ?_ | refine DW.clol ?_ ?_)
  all_goals try ((conv => whnf); with_reducible first | refine Round.mark ?_ | refine Tells.mark ?_ | refine Retold.mark ?_)
  all_goals try first | (show (_ : Bool) = _; simp_all; done) | (show (_ : Int) < _; simp at *; omega) | (show (_ : Int) ≤ _; simp at *; omega) | (show (_ : Nat) < _; simp at *; omega) | (show (_ : Nat) ≤ _; simp at *; omega)
  conv => whnf
  exact Tells.mk (DW.bool (decide_eq_decide.2 (idx_mem x l 0)))
end Go.Proofs.Ytphgcgggbbcjgaa

/- Links by chance. -/
namespace Go.Proofs.Ytphgcgggbbcjgaa
open Go.RowKit Go.Dl
attribute [local irreducible] Tri SCall DFun QSem PCall GCall MCall Round Weak dloadE OW DWl Tells Retold ESem

def strandA (n : Nat) (k : Int) (lb lb2 j : Nat) : St := ⟨⟨6, [.normal, .normal]⟩, tmOf [(0, .clo (.yield lb2) [] []), (1, .ref 5 0), (3, int1 ((j : Int) + 1))], .of [(0, ⟨23, 1, [.arr 7 j]⟩), (1, ⟨3, 1, [int1 n]⟩), (2, ⟨3, 1, [int1 k]⟩), (3, ⟨76, 1, [.clo (.yield lb) [] []]⟩), (4, ⟨23, 1, [.arr 6 j]⟩), (5, ⟨3, 1, [int1 n]⟩), (6, ⟨44, 2, rowL (preL lineF j)⟩), (7, ⟨44, 2, rowL (preL lineF j)⟩)] 8⟩
theorem rnd_lt {j n : Nat} (h : (bif decide ((j : Int) + 1 < (n : Int)) then true else false) = true) : j + 1 < n := by
  by_cases h1 : (j : Int) + 1 < n
  · omega
  · simp [h1] at h
theorem rnd_ge {j n : Nat} (hj : j + 1 ≤ n) (h : decide ((j : Int) + 1 < (n : Int)) = false) : j = n - 1 := by have := of_decide_eq_false h; omega
abbrev stE (x : Int) : Int := IntKind.u64.wrap (IntKind.u64.wrap (x * 6364136223846793005) + 1442695040888963407)
abbrev ndA (n : Nat) (x : Int) : Int := IntKind.i64.wrap (((stE x).fdiv (2 ^ min (Int.toNat 33) IntKind.u64.bits)).tmod (IntKind.u64.wrap n))
theorem fb {b : Bool} (h : (true && !b) = true) : (b == false) = true := by cases b <;> simp at h ⊢
theorem wrapU_ne {n : Nat} (hn : 1 ≤ n ∧ n ≤ 16) (h : IntKind.u64.wrap (n : Int) = 0) : False := by
  rw [wrapU (by omega) (by omega)] at h; omega
theorem rndP_len (n : Nat) (k : Int) (i : Nat) : (rndP n k i).2.length ≤ n - 1 + i := by
  induction i with
  | zero => rw [rndP]; simp [pre_len]
  | succ i ih =>
    rw [rndP, rndP1]
    simp only
    split
    · omega
    · rw [List.length_append, List.length_singleton]; omega
theorem skip_iff {P : List Lk} {a b : Int} {g : Bool} (h : (bif bif bif a == b then true else decide (putX a b ∈ P) then true else decide (6 ≤ ((degT P a : Nat) : Int)) then true else decide (6 ≤ ((degT P b : Nat) : Int))) = g) : skipU P a b = g := by
  subst h
  unfold skipU pairU
  have e : ∀ v, decide (6 ≤ ((degT P v : Nat) : Int)) = decide (6 ≤ degT P v) := fun v => by rw [Bool.eq_iff_iff]; simp; omega
  rw [e, e]
  cases (a == b) <;> cases (decide (putX a b ∈ P)) <;> cases (decide (6 ≤ degT P a)) <;> simp
theorem rndP_skip {n : Nat} {k : Int} {i : Nat} {a b : Int} (ha : a = nodeU n (stepU (rndP n k i).1)) (hb : b = nodeU n (stepU (stepU (rndP n k i).1)))
    (h : (bif bif bif a == b then true else decide (putX a b ∈ (rndP n k i).2) then true else decide (6 ≤ ((degT (rndP n k i).2 a : Nat) : Int)) then true else decide (6 ≤ ((degT (rndP n k i).2 b : Nat) : Int))) = true) : (rndP n k i).2 = (rndP n k (i + 1)).2 := by
  have := skip_iff h
  rw [rndP, rndP1]
  simp only
  rw [← ha, ← hb, if_pos this]
theorem rndP_take {n : Nat} {k : Int} {i : Nat} {a b : Int} (ha : a = nodeU n (stepU (rndP n k i).1)) (hb : b = nodeU n (stepU (stepU (rndP n k i).1)))
    (h : (bif bif bif a == b then true else decide (putX a b ∈ (rndP n k i).2) then true else decide (6 ≤ ((degT (rndP n k i).2 a : Nat) : Int)) then true else decide (6 ≤ ((degT (rndP n k i).2 b : Nat) : Int))) = false) : (rndP n k (i + 1)).2 = (rndP n k i).2 ++ [putX a b] := by
  have := skip_iff h
  rw [rndP, rndP1]
  simp only
  rw [← ha, ← hb, if_neg (by rw [this]; exact Bool.false_ne_true)]
  rfl
theorem ndA_eq {n : Nat} (hn : 1 ≤ n ∧ n ≤ 16) (x : Int) : ndA n x = nodeU n (stepU x) := nodeE hn x
theorem ndA_eq2 {n : Nat} (hn : 1 ≤ n ∧ n ≤ 16) (x : Int) : ndA n (stE x) = nodeU n (stepU (stepU x)) := nodeE hn (stepU x)
theorem rndP_fst (n : Nat) (k : Int) (i : Nat) : stE (stE (rndP n k i).1) = (rndP n k (i + 1)).1 := rfl
theorem rnd_b1 (P : List Lk) : P.length * Try.prog.types[44].size ≤ (rowL P).length := by
  show P.length * 2 ≤ _
  rw [rowL_len]; exact Nat.le_refl _
theorem rnd_b2 {P : List Lk} {i n : Nat} (h : P.length ≤ n - 1 + i) (hi : i ≤ 2 * n) (hn : n ≤ 16) : (P.length + 1) * Try.prog.types[44].bytes ≤ 140737488355328 := by
  show (P.length + 1) * 16 ≤ _
  omega
theorem rnd_b3 {P : List Lk} {i n : Nat} (h : P.length ≤ n - 1 + i) (hi : i ≤ 2 * n) (hn : n ≤ 16) : P.length + 1 ≤ maxLen := by simp only [maxLen]; omega
def rndS2 (n : Nat) (k : Int) (lb i : Nat) : St := ⟨⟨3, [.normal]⟩, tmOf [(1, .ref 1 0), (2, .ref 2 0), (3, .ref 3 0), (4, .ref 4 0), (7, .ref 7 0), (8, .clo (.func 56) [] [.ref 7 0, .ref 1 0]), (32, int1 (2 * n)), (33, int1 i)], .of [(0, ⟨23, 1, [.arr 6 (rndP n k i).2.length]⟩), (1, ⟨3, 1, [int1 n]⟩), (2, ⟨3, 1, [int1 k]⟩), (3, ⟨76, 1, [.clo (.yield lb) [] []]⟩), (4, ⟨23, 1, [.arr 5 (rndP n k i).2.length]⟩), (5, ⟨44, 2, rowL (rndP n k i).2⟩), (6, ⟨44, 2, rowL (rndP n k i).2⟩), (7, ⟨22, 1, [u64 (rndP n k i).1]⟩)] 8⟩
theorem rnd_len0 (n : Nat) (k : Int) : n - 1 = (rndP n k 0).2.length := (pre_len lineF (n - 1)).symm
theorem rnd_seed0 (n : Nat) (k : Int) : IntKind.u64.wrap k = (rndP n k 0).1 := rfl
theorem rnd_row0 (n : Nat) (k : Int) : rowL (preL lineF (n - 1)) = rowL (rndP n k 0).2 := rfl
attribute [local irreducible] rowL preL degT sortL rndP stepU IntKind.wrap
set_option maxRecDepth 100000 in
set_option maxHeartbeats 1000000 in
theorem rnd_D (n : Nat) (hn : 1 ≤ n ∧ n ≤ 16) (k : Int) : DPure Try.prog 8 [int1 7, int1 n, int1 k] (.tup [links (linksR n (rndP n k (2 * n)).2).1, int1 (linksR n (rndP n k (2 * n)).2).2]) := by
  have hG := good_rnd hn.1 k (2 * n)
  generalize hL : (rndP n k (2 * n)).2 = L at *
  have h64 : in64 L := hG.in64 hn.2
  refine DFun.data (DFun.body Try.func8 rfl (by kernel_rfl) ?_)
  repeat' (first | with_reducible rfl | ((conv => whnf); first | refine And.intro ?_ ?_ | (intro h; first | exact Bool.noConfusion h | with_reducible exact h | (refine not_t h ?_; rfl) | (refine not_f h ?_; rfl) | (exfalso; simp at h; omega) | (have ht : true = true := h; clear ht h) | skip) | ((with_reducible refine DWl.mark ?_); repeat' (first | refine DWl.cons ?_ ?_ | exact DWl.nil | exact DW.same _ rfl | exact DW.ref _ _ _ rfl | exact DW.arr _ _ _ rfl | exact DW.sub _ _ _ _ rfl | exact DW.nilLst _ | refine DW.aggl ?_ | refine DW.tupl ?_ | refine DW.clol ?_ ?_ | refine DW.int ?_ | refine DW.bool ?_ | refine DW.str ?_)) | ((with_reducible refine SCall.mark ?_); first | refine SCall.data (shapes_D) rfl rfl ?_ | refine SCall.run Try.func42 rfl (Nat.le_of_ble_eq_true rfl) (by kernel_rfl) ?_) | ((with_reducible refine GCall.mark ?_); first | refine GCall.data (fun _ => shapes_D) rfl rfl ?_) | ((with_reducible refine MCall.mark ?_); first | refine MCall.data (fun _ => shapes_D) rfl rfl ?_) | ((with_reducible refine ex_mark ?_); first | refine dq_look 42 6 rfl rfl rfl ?_) | refine dcell_ok rfl ?_ | refine AppC.new ?_))
  all_goals first | (with_reducible refine enters_mark ?_; kernel_rfl) | (with_reducible refine boolT_mark ?_; kernel_rfl) | rfl | trivial | assumption | exact Nat.le_of_ble_eq_true rfl | (show entersB _ _ = true; kernel_rfl) | exact DW.same _ rfl | exact DW.ref _ _ _ rfl | exact DW.arr _ _ _ rfl | refine DW.int ?_ | refine dvb ?_ | refine dvi ?_ | exact OW.cells rfl rfl (DWl.same rfl) | exact Nat.zero_le _ | omega | skip
  all_goals repeat' (first | refine OW.cells rfl rfl ?_ | exact DW.nilArr _ rfl | refine DWl.cons ?_ ?_ | exact DWl.nil | exact DW.same _ rfl | exact DW.ref _ _ _ rfl | exact DW.arr _ _ _ rfl | exact DW.sub _ _ _ _ rfl | exact DW.nilLst _ | refine DW.aggl ?_ | refine DW.tupl ?_ | refine DW.clol ?_ ?_)
  all_goals try ((conv => whnf); with_reducible first | refine Round.mark ?_ | refine Tells.mark ?_ | refine Retold.mark ?_)
  all_goals try first | (show (_ : Bool) = _; simp_all; done) | (show (_ : Int) < _; simp at *; omega) | (show (_ : Int) ≤ _; simp at *; omega) | (show (_ : Nat) < _; simp at *; omega) | (show (_ : Nat) ≤ _; simp at *; omega)
  conv => whnf
  refine Tri.range rfl (by kernel_rfl) rfl rfl (by rfl) (by kernel_rfl) fun lb => ?_
  repeat' (first | with_reducible rfl | ((conv => whnf); first | refine And.intro ?_ ?_ | (intro h; first | exact Bool.noConfusion h | with_reducible exact h | (refine not_t h ?_; rfl) | (refine not_f h ?_; rfl) | (have ht : true = true := h; clear ht h) | skip) | ((with_reducible refine DWl.mark ?_); repeat' (first | refine DWl.cons ?_ ?_ | exact DWl.nil | exact DW.same _ rfl | exact DW.ref _ _ _ rfl | exact DW.arr _ _ _ rfl | exact DW.sub _ _ _ _ rfl | exact DW.nilLst _ | refine DW.aggl ?_ | refine DW.tupl ?_ | refine DW.clol ?_ ?_ | refine DW.int ?_ | refine DW.bool ?_ | refine DW.str ?_)) | ((with_reducible refine SCall.mark ?_); first | refine SCall.run Try.func36 rfl (Nat.le_of_ble_eq_true rfl) (by kernel_rfl) ?_) | refine dcell_ok rfl ?_ | refine AppC.new ?_))
  all_goals first | (with_reducible refine enters_mark ?_; kernel_rfl) | (with_reducible refine boolT_mark ?_; kernel_rfl) | rfl | trivial | assumption | exact Nat.le_of_ble_eq_true rfl | (show entersB _ _ = true; kernel_rfl) | exact DW.same _ rfl | exact DW.ref _ _ _ rfl | exact DW.arr _ _ _ rfl | refine DW.int ?_ | refine dvb ?_ | refine dvi ?_ | exact OW.cells rfl rfl (DWl.same rfl) | exact Nat.zero_le _ | omega | skip
  all_goals repeat' (first | refine OW.cells rfl rfl ?_ | exact DW.nilArr _ rfl | refine DWl.cons ?_ ?_ | exact DWl.nil | exact DW.same _ rfl | exact DW.ref _ _ _ rfl | exact DW.arr _ _ _ rfl | exact DW.sub _ _ _ _ rfl | exact DW.nilLst _ | refine DW.aggl ?_ | refine DW.tupl ?_ | refine DW.clol ?_ ?_)
  all_goals try ((conv => whnf); with_reducible first | refine Round.mark ?_ | refine Tells.mark ?_ | refine Retold.mark ?_)
  all_goals try first | (show (_ : Bool) = _; simp_all; done) | (show (_ : Int) < _; simp at *; omega) | (show (_ : Int) ≤ _; simp at *; omega) | (show (_ : Nat) < _; simp at *; omega) | (show (_ : Nat) ≤ _; simp at *; omega)
  conv => whnf
  refine Tri.range rfl (by kernel_rfl) rfl rfl (by rfl) (by kernel_rfl) fun lb2 => ?_
  repeat' (first | with_reducible rfl | ((conv => whnf); first | refine And.intro ?_ ?_ | (intro h; first | exact Bool.noConfusion h | with_reducible exact h | (refine not_t h ?_; rfl) | (refine not_f h ?_; rfl) | (refine bt1 h ?_; with_reducible assumption) | (refine bt2 h ?_; with_reducible assumption) | (exfalso; simp at h; omega) | (have ht : true = true := h; clear ht h) | skip) | ((with_reducible refine DWl.mark ?_); repeat' (first | refine DWl.cons ?_ ?_ | exact DWl.nil | exact DW.same _ rfl | exact DW.ref _ _ _ rfl | exact DW.arr _ _ _ rfl | exact DW.sub _ _ _ _ rfl | exact DW.nilLst _ | refine DW.aggl ?_ | refine DW.tupl ?_ | refine DW.clol ?_ ?_ | refine DW.int ?_ | refine DW.bool ?_ | refine DW.str ?_)) | ((with_reducible refine SCall.mark ?_); first | refine SCall.run Try.func56 rfl (Nat.le_of_ble_eq_true rfl) (by kernel_rfl) ?_) | ((with_reducible refine Tri.mark ?_); first | refine Tri.loop (strandA n k lb lb2) (fun j => j + 1 ≤ n) (fun j => n - j) 0 (by kernel_rfl) (Weak.list [(6, none), (7, none)] [] (by kernel_rfl) ?_ ?_) ?_ ?_) | refine dcell_ok rfl ?_ | refine AppC.new ?_))
  all_goals first | (with_reducible refine enters_mark ?_; kernel_rfl) | (with_reducible refine boolT_mark ?_; kernel_rfl) | rfl | trivial | assumption | exact Nat.le_of_ble_eq_true rfl | (show entersB _ _ = true; kernel_rfl) | exact DW.same _ rfl | exact DW.ref _ _ _ rfl | exact DW.arr _ _ _ rfl | refine DW.int ?_ | refine dvb ?_ | refine dvi ?_ | exact OW.cells rfl rfl (DWl.same rfl) | exact Nat.zero_le _ | omega | skip
  all_goals repeat' (first | refine OW.cells rfl rfl ?_ | exact DW.nilArr _ rfl | refine DWl.cons ?_ ?_ | exact DWl.nil | exact DW.same _ rfl | exact DW.ref _ _ _ rfl | exact DW.arr _ _ _ rfl | exact DW.sub _ _ _ _ rfl | exact DW.nilLst _ | refine DW.aggl ?_ | refine DW.tupl ?_ | refine DW.clol ?_ ?_)
  all_goals try ((conv => whnf); with_reducible first | refine Round.mark ?_ | refine Tells.mark ?_ | refine Retold.mark ?_)
  all_goals try first | (show (_ : Bool) = _; simp_all; done) | (show (_ : Int) < _; simp at *; omega) | (show (_ : Int) ≤ _; simp at *; omega) | (show (_ : Nat) < _; simp at *; omega) | (show (_ : Nat) ≤ _; simp at *; omega)
  · conv => whnf
    exact rowL_zero _
  · conv => whnf
    exact rowL_zero _
  · rename_i j hj
    show j * 2 ≤ (rowL (preL lineF j)).length
    rw [rowL_len, pre_len]; omega
  · simp only [maxLen]; omega
  · rename_i j hj
    show j * 2 ≤ (rowL (preL lineF j)).length
    rw [rowL_len, pre_len]; omega
  · simp only [maxLen]; omega
  · rename_i j hj e1 e2
    have hjn : j + 1 < n := rnd_lt (by with_reducible assumption)
    refine Round.go (· + 1) (by omega) (by show n - (j + 1) < n - j; omega) (Weak.list [(6, some 9), (7, some 11)] [] (by kernel_rfl) ?_ ?_)
    · repeat' (first | exact wsucc (k := j + 1) hjn (by omega) | exact DWl.eq (rowL_step (Prod.ext (wprev (by omega)) rfl)) (rowL_all _) | exact DW.same _ rfl | exact DW.ref _ _ _ rfl | exact DW.arr _ _ _ rfl | exact OW.cells rfl rfl (DWl.same rfl) | refine OW.cells rfl rfl ?_ | refine DWl.cons ?_ ?_ | exact DWl.nil | exact DW.nilArr _ rfl | exact DW.nilLst _ | refine DW.clol ?_ ?_ | refine DW.aggl ?_ | refine DW.tupl ?_ | refine DW.int ?_ | refine DW.bool ?_ | refine DW.str ?_ | refine DW.arrE rfl ?_ | ((conv => whnf); first | refine And.intro ?_ ?_ | trivial))
    · repeat' (first | exact wsucc (k := j + 1) hjn (by omega) | exact DWl.eq (rowL_step (Prod.ext (wprev (by omega)) rfl)) (rowL_all _) | exact DW.same _ rfl | exact DW.ref _ _ _ rfl | exact DW.arr _ _ _ rfl | exact OW.cells rfl rfl (DWl.same rfl) | refine OW.cells rfl rfl ?_ | refine DWl.cons ?_ ?_ | exact DWl.nil | exact DW.nilArr _ rfl | exact DW.nilLst _ | refine DW.clol ?_ ?_ | refine DW.aggl ?_ | refine DW.tupl ?_ | refine DW.int ?_ | refine DW.bool ?_ | refine DW.str ?_ | refine DW.arrE rfl ?_ | ((conv => whnf); first | refine And.intro ?_ ?_ | trivial))
  · rename_i j hj e1 e2
    have hjn : j = n - 1 := rnd_ge hj (by with_reducible assumption)
    subst hjn
    conv => whnf
    refine Tri.loop (rndS2 n k lb) (fun i => i ≤ 2 * n) (fun i => 2 * n - i) 0 (by kernel_rfl) (Weak.list [(3, some 3), (4, some 4), (5, some 6), (6, some 7), (7, some 8)] [] (by kernel_rfl) ?_ ?_) (Nat.zero_le _) ?_
    · repeat' (first | exact wrapI (by omega) (by omega) | exact DWl.eq (rnd_row0 n k) (rowL_all _) | exact rnd_len0 n k | exact rnd_seed0 n k | exact DW.same _ rfl | exact DW.ref _ _ _ rfl | exact DW.arr _ _ _ rfl | exact OW.cells rfl rfl (DWl.same rfl) | refine OW.cells rfl rfl ?_ | refine DWl.cons ?_ ?_ | exact DWl.nil | exact DW.nilArr _ rfl | exact DW.nilLst _ | refine DW.clol ?_ ?_ | refine DW.aggl ?_ | refine DW.tupl ?_ | refine DW.int ?_ | refine DW.bool ?_ | refine DW.str ?_ | refine DW.arrE rfl ?_ | ((conv => whnf); first | refine And.intro ?_ ?_ | trivial))
    · repeat' (first | exact wrapI (by omega) (by omega) | exact DWl.eq (rnd_row0 n k) (rowL_all _) | exact rnd_len0 n k | exact rnd_seed0 n k | exact DW.same _ rfl | exact DW.ref _ _ _ rfl | exact DW.arr _ _ _ rfl | exact OW.cells rfl rfl (DWl.same rfl) | refine OW.cells rfl rfl ?_ | refine DWl.cons ?_ ?_ | exact DWl.nil | exact DW.nilArr _ rfl | exact DW.nilLst _ | refine DW.clol ?_ ?_ | refine DW.aggl ?_ | refine DW.tupl ?_ | refine DW.int ?_ | refine DW.bool ?_ | refine DW.str ?_ | refine DW.arrE rfl ?_ | ((conv => whnf); first | refine And.intro ?_ ?_ | trivial))
    intro i hi
    repeat' (first | with_reducible rfl | ((conv => whnf); first | refine And.intro ?_ ?_ | (intro h; first | exact Bool.noConfusion h | with_reducible exact h | (refine bt1 h ?_; with_reducible assumption) | (refine bt2 h ?_; with_reducible assumption) | (have ht : true = true := h; clear ht h) | skip) | ((with_reducible refine DWl.mark ?_); repeat' (first | refine DWl.cons ?_ ?_ | exact DWl.nil | exact DW.same _ rfl | exact DW.ref _ _ _ rfl | exact DW.arr _ _ _ rfl | exact DW.sub _ _ _ _ rfl | exact DW.nilLst _ | refine DW.aggl ?_ | refine DW.tupl ?_ | refine DW.clol ?_ ?_ | exact DW.pubM rfl rfl rfl rfl (linksRow (rndP n k i).2) (rowL_eq (rndP n k i).2) | refine DW.int ?_ | refine DW.bool ?_ | refine DW.str ?_)) | ((with_reducible refine SCall.mark ?_); first | refine SCall.run Try.func56 rfl (Nat.le_of_ble_eq_true rfl) (by kernel_rfl) ?_ | (refine SCall.scalT (contains57_D (rndP n k i).2 (putX (ndA n (rndP n k i).1) (ndA n (stE (rndP n k i).1)))) ?dwq rfl ?_; case dwq => (repeat' (first | refine DWl.cons ?_ ?_ | exact DWl.nil | exact DW.same _ rfl | exact DW.ref _ _ _ rfl | exact DW.arr _ _ _ rfl | exact DW.sub _ _ _ _ rfl | exact DW.nilLst _ | refine DW.aggl ?_ | refine DW.tupl ?_ | refine DW.clol ?_ ?_ | exact DW.pubM rfl rfl rfl rfl (linksRow (rndP n k i).2) (rowL_eq (rndP n k i).2) | refine DW.int ?_ | refine DW.bool ?_ | refine DW.str ?_))) | (refine SCall.scalT (deg22_D (rndP n k i).2 (ndA n (rndP n k i).1)) ?dwq rfl ?_; case dwq => (repeat' (first | refine DWl.cons ?_ ?_ | exact DWl.nil | exact DW.same _ rfl | exact DW.ref _ _ _ rfl | exact DW.arr _ _ _ rfl | exact DW.sub _ _ _ _ rfl | exact DW.nilLst _ | refine DW.aggl ?_ | refine DW.tupl ?_ | refine DW.clol ?_ ?_ | exact DW.pubM rfl rfl rfl rfl (linksRow (rndP n k i).2) (rowL_eq (rndP n k i).2) | refine DW.int ?_ | refine DW.bool ?_ | refine DW.str ?_))) | (refine SCall.scalT (deg22_D (rndP n k i).2 (ndA n (stE (rndP n k i).1))) ?dwq rfl ?_; case dwq => (repeat' (first | refine DWl.cons ?_ ?_ | exact DWl.nil | exact DW.same _ rfl | exact DW.ref _ _ _ rfl | exact DW.arr _ _ _ rfl | exact DW.sub _ _ _ _ rfl | exact DW.nilLst _ | refine DW.aggl ?_ | refine DW.tupl ?_ | refine DW.clol ?_ ?_ | exact DW.pubM rfl rfl rfl rfl (linksRow (rndP n k i).2) (rowL_eq (rndP n k i).2) | refine DW.int ?_ | refine DW.bool ?_ | refine DW.str ?_)))) | ((with_reducible refine GCall.mark ?_); first | (refine GCall.scalT (fun _ => contains57_D (rndP n k i).2 (putX (ndA n (rndP n k i).1) (ndA n (stE (rndP n k i).1)))) ?dwq rfl ?_; case dwq => (intro _; repeat' (first | refine DWl.cons ?_ ?_ | exact DWl.nil | exact DW.same _ rfl | exact DW.ref _ _ _ rfl | exact DW.arr _ _ _ rfl | exact DW.sub _ _ _ _ rfl | exact DW.nilLst _ | refine DW.aggl ?_ | refine DW.tupl ?_ | refine DW.clol ?_ ?_ | exact DW.pubM rfl rfl rfl rfl (linksRow (rndP n k i).2) (rowL_eq (rndP n k i).2) | refine DW.int ?_ | refine DW.bool ?_ | refine DW.str ?_))) | (refine GCall.scalT (fun _ => deg22_D (rndP n k i).2 (ndA n (rndP n k i).1)) ?dwq rfl ?_; case dwq => (intro _; repeat' (first | refine DWl.cons ?_ ?_ | exact DWl.nil | exact DW.same _ rfl | exact DW.ref _ _ _ rfl | exact DW.arr _ _ _ rfl | exact DW.sub _ _ _ _ rfl | exact DW.nilLst _ | refine DW.aggl ?_ | refine DW.tupl ?_ | refine DW.clol ?_ ?_ | exact DW.pubM rfl rfl rfl rfl (linksRow (rndP n k i).2) (rowL_eq (rndP n k i).2) | refine DW.int ?_ | refine DW.bool ?_ | refine DW.str ?_))) | (refine GCall.scalT (fun _ => deg22_D (rndP n k i).2 (ndA n (stE (rndP n k i).1))) ?dwq rfl ?_; case dwq => (intro _; repeat' (first | refine DWl.cons ?_ ?_ | exact DWl.nil | exact DW.same _ rfl | exact DW.ref _ _ _ rfl | exact DW.arr _ _ _ rfl | exact DW.sub _ _ _ _ rfl | exact DW.nilLst _ | refine DW.aggl ?_ | refine DW.tupl ?_ | refine DW.clol ?_ ?_ | exact DW.pubM rfl rfl rfl rfl (linksRow (rndP n k i).2) (rowL_eq (rndP n k i).2) | refine DW.int ?_ | refine DW.bool ?_ | refine DW.str ?_)))) | refine dcell_ok rfl ?_ | refine AppC.new ?_))
    all_goals try ((conv => whnf); with_reducible refine Round.mark ?_)
    all_goals try first | (with_reducible exact fb h) | (with_reducible exact (wrapU_ne hn h).elim) | ((with_reducible show isKnown _ _ = true); kernel_rfl) | ((with_reducible show Option.isSome (slElem _ _) = true); kernel_rfl) | ((with_reducible show slElem _ _ = some _); kernel_rfl) | ((with_reducible refine enters_mark ?_); kernel_rfl) | (with_reducible assumption) | ((with_reducible show List.all _ DV.one = true); rfl) | ((with_reducible show (_ : Nat) = _); rfl) | ((with_reducible show (_ == true) = true); simpa using h) | ((with_reducible show (_ : Nat) ≤ _); exact Nat.le_of_ble_eq_true rfl) | ((with_reducible show (_ : Int) ≤ _); first | omega | decide) | ((with_reducible show (_ : Int) < _); first | omega | decide)
    · have hin : i < 2 * n := by have := of_decide_eq_true ‹decide ((i : Int) < 2 * (n : Int)) = true›; omega
      have e4 := rndP_skip (n := n) (k := k) (i := i) (ndA_eq hn _) (ndA_eq2 hn _) h
      refine Round.go (· + 1) (by omega) (by show 2 * n - (i + 1) < 2 * n - i; omega) (Weak.list [(3, some 3), (4, some 4), (5, some 5), (6, some 6), (7, some 7)] [] (by kernel_rfl) ?_ ?_)
      · repeat' (first | exact wsucc hin (by omega) | exact DWl.eq (congrArg rowL e4) (rowL_all _) | exact congrArg List.length e4 | exact rndP_fst n k i | exact DW.same _ rfl | exact DW.ref _ _ _ rfl | exact DW.arr _ _ _ rfl | exact OW.cells rfl rfl (DWl.same rfl) | refine OW.cells rfl rfl ?_ | refine DWl.cons ?_ ?_ | exact DWl.nil | exact DW.nilArr _ rfl | exact DW.nilLst _ | refine DW.clol ?_ ?_ | refine DW.aggl ?_ | refine DW.tupl ?_ | refine DW.int ?_ | refine DW.bool ?_ | refine DW.str ?_ | refine DW.arrE rfl ?_ | ((conv => whnf); first | refine And.intro ?_ ?_ | trivial))
      · repeat' (first | exact wsucc hin (by omega) | exact DWl.eq (congrArg rowL e4) (rowL_all _) | exact congrArg List.length e4 | exact rndP_fst n k i | exact DW.same _ rfl | exact DW.ref _ _ _ rfl | exact DW.arr _ _ _ rfl | exact OW.cells rfl rfl (DWl.same rfl) | refine OW.cells rfl rfl ?_ | refine DWl.cons ?_ ?_ | exact DWl.nil | exact DW.nilArr _ rfl | exact DW.nilLst _ | refine DW.clol ?_ ?_ | refine DW.aggl ?_ | refine DW.tupl ?_ | refine DW.int ?_ | refine DW.bool ?_ | refine DW.str ?_ | refine DW.arrE rfl ?_ | ((conv => whnf); first | refine And.intro ?_ ?_ | trivial))
    · exact rnd_b1 _
    · exact rnd_b2 (rndP_len n k i) hi hn.2
    · exact rnd_b3 (rndP_len n k i) hi hn.2
    · exact rnd_b1 _
    · exact rnd_b2 (rndP_len n k i) hi hn.2
    · exact rnd_b3 (rndP_len n k i) hi hn.2
    · have hin : i < 2 * n := by have := of_decide_eq_true ‹decide ((i : Int) < 2 * (n : Int)) = true›; omega
      have e4 := rndP_take (n := n) (k := k) (i := i) (ndA_eq hn _) (ndA_eq2 hn _) (by with_reducible assumption)
      refine Round.go (· + 1) (by omega) (by show 2 * n - (i + 1) < 2 * n - i; omega) (Weak.list [(3, some 3), (4, some 4), (5, some 10), (6, some 12), (7, some 7)] [] (by kernel_rfl) ?_ ?_)
      · repeat' (first | exact wsucc hin (by omega) | exact DWl.eq ((grid_row1' _ _).trans (congrArg rowL e4.symm)) (rowL_all _) | exact grid_l1 e4 | exact rndP_fst n k i | exact DW.same _ rfl | exact DW.ref _ _ _ rfl | exact DW.arr _ _ _ rfl | exact OW.cells rfl rfl (DWl.same rfl) | refine OW.cells rfl rfl ?_ | refine DWl.cons ?_ ?_ | exact DWl.nil | exact DW.nilArr _ rfl | exact DW.nilLst _ | refine DW.clol ?_ ?_ | refine DW.aggl ?_ | refine DW.tupl ?_ | refine DW.int ?_ | refine DW.bool ?_ | refine DW.str ?_ | refine DW.arrE rfl ?_ | ((conv => whnf); first | refine And.intro ?_ ?_ | trivial))
      · repeat' (first | exact wsucc hin (by omega) | exact DWl.eq ((grid_row1' _ _).trans (congrArg rowL e4.symm)) (rowL_all _) | exact grid_l1 e4 | exact rndP_fst n k i | exact DW.same _ rfl | exact DW.ref _ _ _ rfl | exact DW.arr _ _ _ rfl | exact OW.cells rfl rfl (DWl.same rfl) | refine OW.cells rfl rfl ?_ | refine DWl.cons ?_ ?_ | exact DWl.nil | exact DW.nilArr _ rfl | exact DW.nilLst _ | refine DW.clol ?_ ?_ | refine DW.aggl ?_ | refine DW.tupl ?_ | refine DW.int ?_ | refine DW.bool ?_ | refine DW.str ?_ | refine DW.arrE rfl ?_ | ((conv => whnf); first | refine And.intro ?_ ?_ | trivial))
    · have hin : i = 2 * n := by have := of_decide_eq_false h; omega
      have hlen : (rndP n k i).2.length = L.length := by rw [hin, hL]
      have hrow : rowL (rndP n k i).2 = rowL L := by rw [hin, hL]
      have hll : L.length ≤ 1000 := by rw [← hlen]; have := rndP_len n k i; omega
      conv => whnf
      refine Tri.loop (stDeg n L) (preDeg n L) (fun v => n - v) 0 (by kernel_rfl) (Weak.list [(0, some 0), (1, some 6)] [] (by kernel_rfl) ?_ ?_) ⟨Nat.zero_le _, fun u hu => absurd hu (Nat.not_lt_zero _)⟩ ?_
      · repeat' (first | exact DWl.eq hrow (rowL_all _) | exact hlen | exact DW.same _ rfl | exact DW.ref _ _ _ rfl | exact DW.arr _ _ _ rfl | exact OW.cells rfl rfl (DWl.same rfl) | refine OW.cells rfl rfl ?_ | refine DWl.cons ?_ ?_ | exact DWl.nil | exact DW.nilArr _ rfl | exact DW.nilLst _ | refine DW.clol ?_ ?_ | refine DW.aggl ?_ | refine DW.tupl ?_ | refine DW.int ?_ | refine DW.bool ?_ | refine DW.str ?_ | refine DW.arrE rfl ?_ | ((conv => whnf); first | refine And.intro ?_ ?_ | trivial))
      · repeat' (first | exact DWl.eq hrow (rowL_all _) | exact hlen | exact DW.same _ rfl | exact DW.ref _ _ _ rfl | exact DW.arr _ _ _ rfl | exact OW.cells rfl rfl (DWl.same rfl) | refine OW.cells rfl rfl ?_ | refine DWl.cons ?_ ?_ | exact DWl.nil | exact DW.nilArr _ rfl | exact DW.nilLst _ | refine DW.clol ?_ ?_ | refine DW.aggl ?_ | refine DW.tupl ?_ | refine DW.int ?_ | refine DW.bool ?_ | refine DW.str ?_ | refine DW.arrE rfl ?_ | ((conv => whnf); first | refine And.intro ?_ ?_ | trivial))
      intro v hv
      repeat' (first | with_reducible rfl | ((conv => whnf); first | refine And.intro ?_ ?_ | (intro h; first | exact Bool.noConfusion h | with_reducible exact h | (refine bt1 h ?_; with_reducible assumption) | (refine bt2 h ?_; with_reducible assumption) | (have ht : true = true := h; clear ht h) | skip) | ((with_reducible refine DWl.mark ?_); repeat' (first | refine DWl.cons ?_ ?_ | exact DWl.nil | exact DW.same _ rfl | exact DW.ref _ _ _ rfl | exact DW.arr _ _ _ rfl | exact DW.sub _ _ _ _ rfl | exact DW.nilLst _ | refine DW.aggl ?_ | refine DW.tupl ?_ | refine DW.clol ?_ ?_ | exact DW.pubM rfl rfl rfl rfl (linksRow L) (rowL_eq L) | refine DW.int ?_ | refine DW.bool ?_ | refine DW.str ?_)) | ((with_reducible refine SCall.mark ?_); first | (refine SCall.scalT (deg22_D L v) ?dwq rfl ?_; case dwq => (repeat' (first | refine DWl.cons ?_ ?_ | exact DWl.nil | exact DW.same _ rfl | exact DW.ref _ _ _ rfl | exact DW.arr _ _ _ rfl | exact DW.sub _ _ _ _ rfl | exact DW.nilLst _ | refine DW.aggl ?_ | refine DW.tupl ?_ | refine DW.clol ?_ ?_ | exact DW.pubM rfl rfl rfl rfl (linksRow L) (rowL_eq L) | refine DW.int ?_ | refine DW.bool ?_ | refine DW.str ?_))) | refine sortLinks (l := L) h64 rfl rfl (by omega) ?_) | ((with_reducible refine GCall.mark ?_); first | (refine GCall.scalT (fun _ => deg22_D L v) ?dwq rfl ?_; case dwq => (intro _; repeat' (first | refine DWl.cons ?_ ?_ | exact DWl.nil | exact DW.same _ rfl | exact DW.ref _ _ _ rfl | exact DW.arr _ _ _ rfl | exact DW.sub _ _ _ _ rfl | exact DW.nilLst _ | refine DW.aggl ?_ | refine DW.tupl ?_ | refine DW.clol ?_ ?_ | exact DW.pubM rfl rfl rfl rfl (linksRow L) (rowL_eq L) | refine DW.int ?_ | refine DW.bool ?_ | refine DW.str ?_)))) | refine dcell_ok rfl ?_ | refine AppC.new ?_))
      all_goals try ((conv => whnf); with_reducible refine Round.mark ?_)
      all_goals try first | ((with_reducible show Option.isSome (slElem _ _) = true); kernel_rfl) | ((with_reducible show slElem _ _ = some _); kernel_rfl) | ((with_reducible refine enters_mark ?_); kernel_rfl) | (with_reducible assumption) | ((with_reducible show List.all _ DV.one = true); rfl) | ((with_reducible show (_ : Nat) = _); rfl) | ((with_reducible show (_ == true) = true); simpa using h) | ((with_reducible show (_ : Nat) ≤ _); exact Nat.le_of_ble_eq_true rfl) | ((with_reducible show (_ : Int) ≤ _); first | omega | decide) | ((with_reducible show (_ : Int) < _); first | omega | decide) | ((with_reducible show (_ : Nat) < _); omega) | ((with_reducible show (_ : Nat) ≤ _); omega)
      · rename_i e3
        conv => whnf
        exact Tells.of (r1 := .tup [links [], int1 43]) (by rw [linksR_no (lt_int e3) (by have := of_decide_eq_true h; omega)]) (Tells.mk (DW.tupl (DWl.cons (DW.nilLst _) (DWl.cons (DW.same _ rfl) DWl.nil))))
      · rename_i e3
        have hvn := lt_int e3
        refine Round.go (· + 1) ⟨hvn, fun u hu => ?_⟩ (by show n - (v + 1) < n - v; omega) (Weak.list [(0, some 0), (1, some 1)] [] (by kernel_rfl) ?_ ?_)
        · rcases Nat.lt_succ_iff_lt_or_eq.1 hu with h5 | h5
          · exact hv.2 u h5
          · subst h5; have := of_decide_eq_false h; omega
        · repeat' (first | exact wsucc hvn (by omega) | exact DWl.eq rfl (rowL_all _) | exact DW.same _ rfl | exact DW.ref _ _ _ rfl | exact DW.arr _ _ _ rfl | exact OW.cells rfl rfl (DWl.same rfl) | refine OW.cells rfl rfl ?_ | refine DWl.cons ?_ ?_ | exact DWl.nil | exact DW.nilArr _ rfl | exact DW.nilLst _ | refine DW.clol ?_ ?_ | refine DW.aggl ?_ | refine DW.tupl ?_ | refine DW.int ?_ | refine DW.bool ?_ | refine DW.str ?_ | refine DW.arrE rfl ?_ | ((conv => whnf); first | refine And.intro ?_ ?_ | trivial))
        · repeat' (first | exact wsucc hvn (by omega) | exact DWl.eq rfl (rowL_all _) | exact DW.same _ rfl | exact DW.ref _ _ _ rfl | exact DW.arr _ _ _ rfl | exact OW.cells rfl rfl (DWl.same rfl) | refine OW.cells rfl rfl ?_ | refine DWl.cons ?_ ?_ | exact DWl.nil | exact DW.nilArr _ rfl | exact DW.nilLst _ | refine DW.clol ?_ ?_ | refine DW.aggl ?_ | refine DW.tupl ?_ | refine DW.int ?_ | refine DW.bool ?_ | refine DW.str ?_ | refine DW.arrE rfl ?_ | ((conv => whnf); first | refine And.intro ?_ ?_ | trivial))
      · have hvn : v = n := by have := ge_int h; have := hv.1; omega
        conv => whnf
        exact Tells.of (r1 := .tup [links (sortL L), int1 0]) (by rw [linksR_ok (by rw [← hvn]; exact hv.2)]) (Tells.mk (DW.tupl (DWl.cons (DW.pubM rfl (sortL_len L) rfl rfl (linksRow _) (rowL_eq _)) (DWl.cons (DW.same _ rfl) DWl.nil))))
end Go.Proofs.Ytphgcgggbbcjgaa

/- Links of any shape and numbers, the program's and the document's. -/
namespace Go.Proofs.Ytphgcgggbbcjgaa
open Go.RowKit Go.Dl
attribute [local irreducible] Tri SCall DFun QSem PCall GCall MCall Round Weak dloadE OW DWl Tells IntKind.wrap Retold ESem

def shapeL (shape : Int) (n : Nat) (k : Int) : List Lk :=
  if shape = 1 then preL lineF (n - 1) else if shape = 2 then ringL n else if shape = 3 then preL starF (n - 1) else if shape = 4 then fullP n n
  else if shape = 5 then gridP n k n else if shape = 6 then preL (treeF k) (n - 1) else (rndP n k (2 * n)).2
def linksP (shape n k : Int) : List Lk × Int :=
  if shape < 1 ∨ 7 < shape then ([], 46) else if (n < 1 ∨ 16 < n) ∨ ((shape = 5 ∨ shape = 6) ∧ k < 1) then ([], 31) else linksR n.toNat (shapeL shape n.toNat k)
theorem good_shape {shape : Int} {n : Nat} {k : Int} (hn : 1 ≤ n) (hk : (shape = 5 ∨ shape = 6) → 1 ≤ k) : GoodL n (shapeL shape n k) := by
  unfold shapeL
  split
  · exact good_line hn
  split
  · exact good_ring hn
  split
  · exact good_star hn
  split
  · exact good_full hn
  split
  · exact good_grid hn (hk (.inl (by assumption)))
  split
  · exact good_tree hn (hk (.inr (by assumption)))
  · exact good_rnd hn k _
theorem doc_same {n : Nat} (hn : n ≤ 16) {l : List Lk} (h : GoodL n l) : docR n (putA [] l) = linksR n l := by
  have e := put_sort (h.in64 hn) h.up h.one
  have ed : degOk n (putA [] l) = degOk n l := by
    rw [e]
    unfold degOk
    refine congrArg (List.all (List.range n)) (funext fun v => ?_)
    rw [deg_perm (sortL_perm (h.in64 hn))]
  unfold docR linksR
  rw [ed, e]
theorem rnd_docR {n : Nat} (hn : 1 ≤ n ∧ n ≤ 16) (k : Int) : docR n (rndD n k (docL n) (2 * n)).2 = linksR n (rndP n k (2 * n)).2 := by
  have h := good_rnd hn.1 k (2 * n)
  have e : (rndD n k (docL n) (2 * n)).2 = sortL (rndP n k (2 * n)).2 := rnd_sort hn k (2 * n)
  have ed : degOk n (sortL (rndP n k (2 * n)).2) = degOk n (rndP n k (2 * n)).2 := by
    unfold degOk
    refine congrArg (List.all (List.range n)) (funext fun v => ?_)
    rw [deg_perm (sortL_perm (h.in64 hn.2))]
  rw [e]
  unfold docR linksR
  rw [ed]
theorem seven {x : Int} (h : ¬ (x < 1 ∨ 7 < x)) : x = 1 ∨ x = 2 ∨ x = 3 ∨ x = 4 ∨ x = 5 ∨ x = 6 ∨ x = 7 := by omega
theorem links8_D (shape n k : Int) : DPure Try.prog 8 [int1 shape, int1 n, int1 k] (.tup [links (linksP shape n k).1, int1 (linksP shape n k).2]) := by
  unfold linksP
  split
  · rename_i h; exact links_kind shape n k h
  rename_i h1
  split
  · rename_i h; exact links_num shape n k (by omega) h
  rename_i h2
  obtain ⟨m, rfl⟩ := Int.eq_ofNat_of_zero_le (show 0 ≤ n by omega)
  have hm : 1 ≤ m ∧ m ≤ 16 := by omega
  rw [Int.toNat_natCast]
  rcases seven h1 with rfl | rfl | rfl | rfl | rfl | rfl | rfl
  · exact line_D m hm k
  · by_cases h3 : 3 ≤ m
    · exact ringB_D m hm k h3
    · exact ringA_D m hm k h3
  · exact star_D m hm k
  · exact full_D m hm k
  · exact grid_D m hm k (by omega)
  · exact tree_D m hm k (by omega)
  · exact rnd_D m hm k
theorem links9_D (shape n k : Int) : DPure Try.prog 9 [int1 shape, int1 n, int1 k] (.tup [links (linksP shape n k).1, int1 (linksP shape n k).2]) := by
  unfold linksP
  split
  · rename_i h; exact doc9_kind shape n k h
  rename_i h1
  split
  · rename_i h; exact doc9_num shape n k (by omega) h
  rename_i h2
  obtain ⟨m, rfl⟩ := Int.eq_ofNat_of_zero_le (show 0 ≤ n by omega)
  have hm : 1 ≤ m ∧ m ≤ 16 := by omega
  rw [Int.toNat_natCast]
  have hk : (shape = 5 ∨ shape = 6) → 1 ≤ k := by omega
  have hg := good_shape (n := m) (k := k) hm.1 hk
  have key : ∀ l, DPure Try.prog 31 [int1 shape, int1 m, int1 k] (links l) → docR m l = linksR m (shapeL shape m k) → DPure Try.prog 9 [int1 shape, int1 m, int1 k] (.tup [links (linksR m (shapeL shape m k)).1, int1 (linksR m (shapeL shape m k)).2]) := fun l hl he => by
    rw [← he]
    exact doc9_D shape (by omega) m hm k hk l hl
  rcases seven h1 with rfl | rfl | rfl | rfl | rfl | rfl | rfl
  · exact key _ (line31_D m hm k) (doc_same hm.2 hg)
  · exact key _ (ring31_D m hm k) (doc_same hm.2 hg)
  · exact key _ (star31_D m hm k) (doc_same hm.2 hg)
  · exact key _ (full31_D m hm k) (doc_same hm.2 hg)
  · exact key _ (grid31_D m hm k (by omega)) (doc_same hm.2 hg)
  · exact key _ (tree31_D m hm k (by omega)) (doc_same hm.2 hg)
  · exact key _ (rnd31_D m hm k) (rnd_docR hm k)
end Go.Proofs.Ytphgcgggbbcjgaa

/- What PlanLinks and PlanShapes compute. -/
namespace Go.Proofs.Ytphgcgggbbcjgaa
open Go.RowKit Go.Dl
attribute [local irreducible] Tri SCall DFun QSem PCall GCall MCall Round Weak dloadE OW DWl Tells IntKind.wrap Retold ESem

theorem linksP_err {shape n k : Int} (h : (linksP shape n k).2 ≠ 0) : (linksP shape n k).1 = [] := by
  unfold linksP at *
  split
  · rfl
  split
  · rfl
  · rename_i h1 h2
    rw [if_neg h1, if_neg h2] at h
    unfold linksR at *
    split
    · rename_i h3; rw [if_pos h3] at h; exact absurd rfl h
    · rfl
theorem linksP_ok {shape n k : Int} (h : (linksP shape n k).2 = 0) : ∃ m : Nat, n = m ∧ (1 ≤ m ∧ m ≤ 16) ∧ (1 ≤ shape ∧ shape ≤ 7) ∧ ((shape = 5 ∨ shape = 6) → 1 ≤ k) ∧ linksP shape n k = (sortL (shapeL shape m k), 0) ∧ degOk m (shapeL shape m k) = true := by
  unfold linksP at *
  split at h
  · cases h
  split at h
  · cases h
  rename_i h1 h2
  obtain ⟨m, rfl⟩ := Int.eq_ofNat_of_zero_le (show 0 ≤ n by omega)
  rw [if_neg h1, if_neg h2]
  rw [Int.toNat_natCast] at *
  refine ⟨m, rfl, by omega, by omega, by omega, ?_⟩
  unfold linksR at *
  split at h
  · rename_i h3
    rw [if_pos h3]
    exact ⟨rfl, h3⟩
  · cases h
/-- How many pairs a shape has. -/
def wantL (shape : Int) (m : Nat) (len : Nat) : Prop :=
  if shape = 2 then (if 3 ≤ m then len = m else len = m - 1) else if shape = 4 then (len : Int) = (m : Int) * ((m : Int) - 1) / 2 else if shape = 5 ∨ shape = 7 then m - 1 ≤ len else len = m - 1
theorem want_ok {shape : Int} {m : Nat} {k : Int} (hm : 1 ≤ m ∧ m ≤ 16) (hs : 1 ≤ shape ∧ shape ≤ 7) (hk : (shape = 5 ∨ shape = 6) → 1 ≤ k) : wantL shape m (shapeL shape m k).length := by
  have hg := good_len (good_shape (shape := shape) (k := k) hm.1 hk)
  unfold wantL
  split
  · rename_i h; subst h
    rw [show shapeL 2 m k = ringL m from rfl, ring_len]
    split <;> omega
  split
  · rename_i h; subst h
    exact full_count hm.2
  split
  · exact hg
  · have : shape = 1 ∨ shape = 3 ∨ shape = 6 := by omega
    rcases this with rfl | rfl | rfl
    · exact pre_len _ _
    · exact pre_len _ _
    · exact pre_len _ _
theorem planLinks_b {a : List Lk} {e : Int} {r : Int} : true = (bif bif bif decide (a = a) then e == e else false then r == r else false then true else false) := by simp
theorem len_eq {l : List Lk} {b : Int} (h : (l.length : Int) = b) : (bif ((l.map linkD).length : Int) == b then true else false) = true := by
  rw [List.length_map, h]; simp
theorem len_ge {l : List Lk} {b : Int} (h : b ≤ (l.length : Int)) : (bif decide (b ≤ ((l.map linkD).length : Int)) then true else false) = true := by
  rw [List.length_map]; simp [h]
theorem want2 {s : Int} {m n : Nat} (h : wantL s m n) (h2 : (s == 2) = true) (h3 : decide (3 ≤ (m : Int)) = true) : (n : Int) = m := by
  have h2 := eq_of_beq h2
  have h3 := of_decide_eq_true h3
  unfold wantL at h
  rw [if_pos h2, if_pos (by omega)] at h
  omega
theorem want2' {s : Int} {m n : Nat} (hm : 1 ≤ m ∧ m ≤ 16) (h : wantL s m n) (h2 : (s == 2) = true) (h3 : decide (3 ≤ (m : Int)) = false) : (n : Int) = IntKind.i64.wrap ((m : Int) - 1) := by
  have h2 := eq_of_beq h2
  have h3 := of_decide_eq_false h3
  unfold wantL at h
  rw [if_pos h2, if_neg (by omega)] at h
  rw [wrapI (by omega) (by omega)]; omega
theorem want4 {s : Int} {m n : Nat} (hm : 1 ≤ m ∧ m ≤ 16) (h : wantL s m n) (h4 : (s == 4) = true) : (n : Int) = IntKind.i64.wrap ((IntKind.i64.wrap ((m : Int) * IntKind.i64.wrap ((m : Int) - 1))).tdiv 2) := by
  have h4 := eq_of_beq h4
  subst h4
  unfold wantL at h
  rw [if_neg (by decide), if_pos rfl] at h
  have h1 : 0 ≤ (m : Int) * ((m : Int) - 1) := Int.mul_nonneg (by omega) (by omega)
  have h2 : (m : Int) * ((m : Int) - 1) ≤ 16 * 15 := Int.mul_le_mul (by omega) (by omega) (by omega) (by omega)
  rw [wrapI (x := (m : Int) - 1) (by omega) (by omega), wrapI (x := (m : Int) * ((m : Int) - 1)) (by omega) (by omega), Int.tdiv_eq_ediv_of_nonneg h1, wrapI (by omega) (by omega)]
  exact h
theorem want57 {s : Int} {m n : Nat} (hm : 1 ≤ m ∧ m ≤ 16) (h : wantL s m n) (h5 : (s == 5) = true ∨ (s == 7) = true) : IntKind.i64.wrap ((m : Int) - 1) ≤ (n : Int) := by
  have h5 : s = 5 ∨ s = 7 := h5.imp eq_of_beq eq_of_beq
  unfold wantL at h
  rw [if_neg (by omega), if_neg (by omega), if_pos h5] at h
  rw [wrapI (by omega) (by omega)]; omega
theorem want1 {s : Int} {m n : Nat} (hm : 1 ≤ m ∧ m ≤ 16) (h : wantL s m n) (h2 : (s == 2) = false) (h4 : (s == 4) = false) (h5 : (s == 5) = false) (h7 : (s == 7) = false) : (n : Int) = IntKind.i64.wrap ((m : Int) - 1) := by
  simp only [beq_eq_false_iff_ne, ne_eq] at h2 h4 h5 h7
  unfold wantL at h
  rw [if_neg h2, if_neg h4, if_neg (by omega)] at h
  rw [wrapI (by omega) (by omega)]; omega
attribute [local irreducible] linksP randK partsT sortL shapeL
set_option maxRecDepth 20000 in
theorem planLinks3_D (shape n k x j : Int) : DPure Try.prog 3 [int1 shape, int1 n, int1 k, u64 x, int1 j] (.v (.bool true)) := by
  refine DFun.data (DFun.body Try.func3 rfl (by kernel_rfl) ?_)
  repeat' (first | with_reducible rfl | ((conv => whnf); first | refine And.intro ?_ ?_ | (intro h; first | exact Bool.noConfusion h | with_reducible exact h | (have ht : true = true := h; clear ht h) | skip) | ((with_reducible refine DWl.mark ?_); repeat' (first | refine DWl.cons ?_ ?_ | exact DWl.nil | exact DW.same _ rfl | exact DW.ref _ _ _ rfl | exact DW.arr _ _ _ rfl | exact DW.sub _ _ _ _ rfl | exact DW.nilLst _ | refine DW.aggl ?_ | refine DW.tupl ?_ | refine DW.clol ?_ ?_ | refine DW.int ?_ | refine DW.bool ?_ | refine DW.str ?_)) | ((with_reducible refine SCall.mark ?_); first | refine SCall.data (links8_D _ _ _) rfl rfl ?_ | refine SCall.scal (links8_D _ _ _) rfl rfl ?_ | refine SCall.data (links9_D _ _ _) rfl rfl ?_ | refine SCall.scal (links9_D _ _ _) rfl rfl ?_ | refine SCall.data (same_D _ _) rfl rfl ?_ | refine SCall.scal (same_D _ _) rfl rfl ?_ | refine SCall.data (rand11_D _ _) rfl rfl ?_ | refine SCall.scal (rand11_D _ _) rfl rfl ?_ | refine SCall.data (rand12_D _ _) rfl rfl ?_ | refine SCall.scal (rand12_D _ _) rfl rfl ?_ | refine SCall.data (awake13_D) rfl rfl ?_ | refine SCall.scal (awake13_D) rfl rfl ?_) | ((with_reducible refine PCall.mark ?_); first | refine PCall.mk (links8_D _ _ _) rfl rfl ?_ | refine PCall.mk (links9_D _ _ _) rfl rfl ?_ | refine PCall.mk (same_D _ _) rfl rfl ?_ | refine PCall.mk (rand11_D _ _) rfl rfl ?_ | refine PCall.mk (rand12_D _ _) rfl rfl ?_ | refine PCall.mk (awake13_D) rfl rfl ?_) | ((with_reducible refine GCall.mark ?_); first | refine GCall.data (fun _ => links8_D _ _ _) rfl rfl ?_ | refine GCall.scal (fun _ => links8_D _ _ _) rfl rfl ?_ | refine GCall.data (fun _ => links9_D _ _ _) rfl rfl ?_ | refine GCall.scal (fun _ => links9_D _ _ _) rfl rfl ?_ | refine GCall.data (fun _ => same_D _ _) rfl rfl ?_ | refine GCall.scal (fun _ => same_D _ _) rfl rfl ?_ | refine GCall.data (fun _ => rand11_D _ _) rfl rfl ?_ | refine GCall.scal (fun _ => rand11_D _ _) rfl rfl ?_ | refine GCall.data (fun _ => rand12_D _ _) rfl rfl ?_ | refine GCall.scal (fun _ => rand12_D _ _) rfl rfl ?_ | refine GCall.data (fun _ => awake13_D) rfl rfl ?_ | refine GCall.scal (fun _ => awake13_D) rfl rfl ?_) | ((with_reducible refine MCall.mark ?_); first | refine MCall.data (fun _ => links8_D _ _ _) rfl rfl ?_ | refine MCall.plain (PCall.mk (links8_D _ _ _) rfl rfl ?_) | refine MCall.data (fun _ => links9_D _ _ _) rfl rfl ?_ | refine MCall.plain (PCall.mk (links9_D _ _ _) rfl rfl ?_) | refine MCall.data (fun _ => same_D _ _) rfl rfl ?_ | refine MCall.plain (PCall.mk (same_D _ _) rfl rfl ?_) | refine MCall.data (fun _ => rand11_D _ _) rfl rfl ?_ | refine MCall.plain (PCall.mk (rand11_D _ _) rfl rfl ?_) | refine MCall.data (fun _ => rand12_D _ _) rfl rfl ?_ | refine MCall.plain (PCall.mk (rand12_D _ _) rfl rfl ?_) | refine MCall.data (fun _ => awake13_D) rfl rfl ?_ | refine MCall.plain (PCall.mk (awake13_D) rfl rfl ?_)) | refine dcell_ok rfl ?_ | refine AppC.new ?_))
  all_goals first | (with_reducible refine enters_mark ?_; kernel_rfl) | (with_reducible refine boolT_mark ?_; kernel_rfl) | rfl | trivial | assumption | exact Nat.le_of_ble_eq_true rfl | (show entersB _ _ = true; kernel_rfl) | exact DW.same _ rfl | exact DW.ref _ _ _ rfl | exact DW.arr _ _ _ rfl | refine DW.int ?_ | refine dvb ?_ | refine dvi ?_ | exact OW.cells rfl rfl (DWl.same rfl) | exact Nat.zero_le _ | omega | skip
  all_goals repeat' (first | refine OW.cells rfl rfl ?_ | exact DW.nilArr _ rfl | refine DWl.cons ?_ ?_ | exact DWl.nil | exact DW.same _ rfl | exact DW.ref _ _ _ rfl | exact DW.arr _ _ _ rfl | exact DW.sub _ _ _ _ rfl | exact DW.nilLst _ | refine DW.aggl ?_ | refine DW.tupl ?_ | refine DW.clol ?_ ?_)
  all_goals try ((conv => whnf); with_reducible first | refine Round.mark ?_ | refine Tells.mark ?_ | refine Retold.mark ?_)
  all_goals try first | (show (_ : Bool) = _; simp_all; done) | (show (_ : Int) < _; simp at *; omega) | (show (_ : Int) ≤ _; simp at *; omega) | (show (_ : Nat) < _; simp at *; omega) | (show (_ : Nat) ≤ _; simp at *; omega)
  conv => whnf
  exact Tells.mk (DW.bool planLinks_b.symm)
def shSt (n : Nat) (shape : Int) (L : List Lk) (P : List Int) (i : Nat) : St := ⟨0, tmOf [(0, int1 shape), (1, int1 n), (7, links L), (33, ints P), (34, int1 (P.map intD).length), (35, int1 i)], .of [] 0⟩
set_option maxRecDepth 20000 in
theorem shapes7_err (shape n k : Int) (he : (linksP shape n k).2 ≠ 0) : DPure Try.prog 7 [int1 shape, int1 n, int1 k] (.v (.bool true)) := by
  have hl := links8_D shape n k
  rw [linksP_err he] at hl
  generalize (linksP shape n k).2 = e at *
  refine DFun.data (DFun.body Try.func7 rfl (by kernel_rfl) ?_)
  repeat' (first | with_reducible rfl | ((conv => whnf); first | refine And.intro ?_ ?_ | (intro h; first | exact Bool.noConfusion h | with_reducible exact h | (exfalso; simp at h; exact he h) | (have ht : true = true := h; clear ht h) | skip) | ((with_reducible refine DWl.mark ?_); repeat' (first | refine DWl.cons ?_ ?_ | exact DWl.nil | exact DW.same _ rfl | exact DW.ref _ _ _ rfl | exact DW.arr _ _ _ rfl | exact DW.sub _ _ _ _ rfl | exact DW.nilLst _ | refine DW.aggl ?_ | refine DW.tupl ?_ | refine DW.clol ?_ ?_ | refine DW.int ?_ | refine DW.bool ?_ | refine DW.str ?_)) | ((with_reducible refine SCall.mark ?_); first | refine SCall.data (hl) rfl rfl ?_ | refine SCall.scal (hl) rfl rfl ?_ | refine SCall.data (awake13_D) rfl rfl ?_ | refine SCall.scal (awake13_D) rfl rfl ?_) | ((with_reducible refine PCall.mark ?_); first | refine PCall.mk (hl) rfl rfl ?_ | refine PCall.mk (awake13_D) rfl rfl ?_) | ((with_reducible refine GCall.mark ?_); first | refine GCall.data (fun _ => hl) rfl rfl ?_ | refine GCall.scal (fun _ => hl) rfl rfl ?_ | refine GCall.data (fun _ => awake13_D) rfl rfl ?_ | refine GCall.scal (fun _ => awake13_D) rfl rfl ?_) | ((with_reducible refine MCall.mark ?_); first | refine MCall.data (fun _ => hl) rfl rfl ?_ | refine MCall.plain (PCall.mk (hl) rfl rfl ?_) | refine MCall.data (fun _ => awake13_D) rfl rfl ?_ | refine MCall.plain (PCall.mk (awake13_D) rfl rfl ?_)) | refine dcell_ok rfl ?_ | refine AppC.new ?_))
  all_goals first | (with_reducible refine enters_mark ?_; kernel_rfl) | (with_reducible refine boolT_mark ?_; kernel_rfl) | rfl | trivial | assumption | exact Nat.le_of_ble_eq_true rfl | (show entersB _ _ = true; kernel_rfl) | exact DW.same _ rfl | exact DW.ref _ _ _ rfl | exact DW.arr _ _ _ rfl | refine DW.int ?_ | refine dvb ?_ | refine dvi ?_ | exact OW.cells rfl rfl (DWl.same rfl) | exact Nat.zero_le _ | omega | skip
  all_goals repeat' (first | refine OW.cells rfl rfl ?_ | exact DW.nilArr _ rfl | refine DWl.cons ?_ ?_ | exact DWl.nil | exact DW.same _ rfl | exact DW.ref _ _ _ rfl | exact DW.arr _ _ _ rfl | exact DW.sub _ _ _ _ rfl | exact DW.nilLst _ | refine DW.aggl ?_ | refine DW.tupl ?_ | refine DW.clol ?_ ?_)
  all_goals try ((conv => whnf); with_reducible first | refine Round.mark ?_ | refine Tells.mark ?_ | refine Retold.mark ?_)
  all_goals try first | (show (_ : Bool) = _; simp_all; done) | (show (_ : Int) < _; simp at *; omega) | (show (_ : Int) ≤ _; simp at *; omega) | (show (_ : Nat) < _; simp at *; omega) | (show (_ : Nat) ≤ _; simp at *; omega)
  conv => whnf
  exact Tells.mk (DW.bool rfl)
set_option maxRecDepth 20000 in
theorem shapes7_ok (shape : Int) (m : Nat) (k : Int) (hm : 1 ≤ m ∧ m ≤ 16) (L : List Lk) (hl : DPure Try.prog 8 [int1 shape, int1 m, int1 k] (.tup [links L, int1 0])) (hg : GoodL m L) (hf : fitB m L = true) (hw : wantL shape m L.length) :
    DPure Try.prog 7 [int1 shape, int1 m, int1 k] (.v (.bool true)) := by
  refine DFun.data (DFun.body Try.func7 rfl (by kernel_rfl) ?_)
  repeat' (first | with_reducible rfl | ((conv => whnf); first | refine And.intro ?_ ?_ | (intro h; first | exact Bool.noConfusion h | with_reducible exact h | (exfalso; revert h; rw [hf]; decide) | (have ht : true = true := h; clear ht h) | skip) | ((with_reducible refine DWl.mark ?_); repeat' (first | refine DWl.cons ?_ ?_ | exact DWl.nil | exact DW.same _ rfl | exact DW.ref _ _ _ rfl | exact DW.arr _ _ _ rfl | exact DW.sub _ _ _ _ rfl | exact DW.nilLst _ | refine DW.aggl ?_ | refine DW.tupl ?_ | refine DW.clol ?_ ?_ | refine DW.int ?_ | refine DW.bool ?_ | refine DW.str ?_)) | ((with_reducible refine SCall.mark ?_); first | refine SCall.data (hl) rfl rfl ?_ | refine SCall.scal (hl) rfl rfl ?_ | refine SCall.data (awake13_D) rfl rfl ?_ | refine SCall.scal (awake13_D) rfl rfl ?_ | refine SCall.data (fit21_D _ _) rfl rfl ?_ | refine SCall.scal (fit21_D _ _) rfl rfl ?_ | refine SCall.data (parts19_D _ _ (by omega) (good_inN hg)) rfl rfl ?_ | refine SCall.scal (parts19_D _ _ (by omega) (good_inN hg)) rfl rfl ?_) | ((with_reducible refine PCall.mark ?_); first | refine PCall.mk (hl) rfl rfl ?_ | refine PCall.mk (awake13_D) rfl rfl ?_ | refine PCall.mk (fit21_D _ _) rfl rfl ?_ | refine PCall.mk (parts19_D _ _ (by omega) (good_inN hg)) rfl rfl ?_) | ((with_reducible refine GCall.mark ?_); first | refine GCall.data (fun _ => hl) rfl rfl ?_ | refine GCall.scal (fun _ => hl) rfl rfl ?_ | refine GCall.data (fun _ => awake13_D) rfl rfl ?_ | refine GCall.scal (fun _ => awake13_D) rfl rfl ?_ | refine GCall.data (fun _ => fit21_D _ _) rfl rfl ?_ | refine GCall.scal (fun _ => fit21_D _ _) rfl rfl ?_ | refine GCall.data (fun _ => parts19_D _ _ (by omega) (good_inN hg)) rfl rfl ?_ | refine GCall.scal (fun _ => parts19_D _ _ (by omega) (good_inN hg)) rfl rfl ?_) | ((with_reducible refine MCall.mark ?_); first | refine MCall.data (fun _ => hl) rfl rfl ?_ | refine MCall.plain (PCall.mk (hl) rfl rfl ?_) | refine MCall.data (fun _ => awake13_D) rfl rfl ?_ | refine MCall.plain (PCall.mk (awake13_D) rfl rfl ?_) | refine MCall.data (fun _ => fit21_D _ _) rfl rfl ?_ | refine MCall.plain (PCall.mk (fit21_D _ _) rfl rfl ?_) | refine MCall.data (fun _ => parts19_D _ _ (by omega) (good_inN hg)) rfl rfl ?_ | refine MCall.plain (PCall.mk (parts19_D _ _ (by omega) (good_inN hg)) rfl rfl ?_)) | ((with_reducible refine Tri.mark ?_); first | refine Tri.loop (shSt m shape L (partsT m L)) (fun i => i ≤ m) (fun i => m - i) (0) (by kernel_rfl) (Weak.list [] [] ?_ ?_ ?_) ?_ ?_) | refine dloadE_map (0) ?_ ?_ | refine dcell_ok rfl ?_ | refine AppC.new ?_))
  all_goals first | (with_reducible refine enters_mark ?_; kernel_rfl) | (with_reducible refine boolT_mark ?_; kernel_rfl) | rfl | trivial | assumption | exact Nat.le_of_ble_eq_true rfl | (show entersB _ _ = true; kernel_rfl) | exact DW.same _ rfl | exact DW.ref _ _ _ rfl | exact DW.arr _ _ _ rfl | refine DW.int ?_ | refine dvb ?_ | refine dvi ?_ | exact OW.cells rfl rfl (DWl.same rfl) | exact Nat.zero_le _ | omega | skip
  all_goals repeat' (first | refine OW.cells rfl rfl ?_ | exact DW.nilArr _ rfl | refine DWl.cons ?_ ?_ | exact DWl.nil | exact DW.same _ rfl | exact DW.ref _ _ _ rfl | exact DW.arr _ _ _ rfl | exact DW.sub _ _ _ _ rfl | exact DW.nilLst _ | refine DW.aggl ?_ | refine DW.tupl ?_ | refine DW.clol ?_ ?_)
  all_goals try ((conv => whnf); with_reducible first | refine Round.mark ?_ | refine Tells.mark ?_ | refine Retold.mark ?_)
  all_goals try first | (show (_ : Bool) = _; simp_all; done) | (show (_ : Int) < _; simp at *; omega) | (show (_ : Int) ≤ _; simp at *; omega) | (show (_ : Nat) < _; simp at *; omega) | (show (_ : Nat) ≤ _; simp at *; omega)
  · rename_i i hi e0
    have him : i < m := by have := lt_of_test e0; rw [partsT_len] at this; exact this
    have e := good_parts hg him
    simp only [Int.toNat_natCast] at h
    rw [e] at h; cases h
  · rename_i i hi e0
    have him : i < m := by have := lt_of_test e0; rw [partsT_len] at this; exact this
    refine Round.go (· + 1) him (by show m - (i + 1) < m - i; omega) (Weak.list [] [] (by kernel_rfl) ?_ ?_)
    · repeat' (first | exact wsucc him (by omega) | exact DW.same _ rfl | exact DW.ref _ _ _ rfl | exact DW.arr _ _ _ rfl | exact OW.cells rfl rfl (DWl.same rfl) | refine OW.cells rfl rfl ?_ | refine DWl.cons ?_ ?_ | exact DWl.nil | exact DW.nilArr _ rfl | exact DW.nilLst _ | refine DW.clol ?_ ?_ | refine DW.aggl ?_ | refine DW.tupl ?_ | refine DW.int ?_ | refine DW.bool ?_ | refine DW.str ?_ | refine DW.arrE rfl ?_ | ((conv => whnf); first | refine And.intro ?_ ?_ | trivial))
    · repeat' (first | exact wsucc him (by omega) | exact DW.same _ rfl | exact DW.ref _ _ _ rfl | exact DW.arr _ _ _ rfl | exact OW.cells rfl rfl (DWl.same rfl) | refine OW.cells rfl rfl ?_ | refine DWl.cons ?_ ?_ | exact DWl.nil | exact DW.nilArr _ rfl | exact DW.nilLst _ | refine DW.clol ?_ ?_ | refine DW.aggl ?_ | refine DW.tupl ?_ | refine DW.int ?_ | refine DW.bool ?_ | refine DW.str ?_ | refine DW.arrE rfl ?_ | ((conv => whnf); first | refine And.intro ?_ ?_ | trivial))
  all_goals (conv => whnf)
  all_goals refine Tells.mk (DW.bool ?_)
  · exact len_eq (want2 hw (by assumption) (by assumption))
  · exact len_eq (want2' hm hw (by assumption) (by assumption))
  · exact len_eq (want4 hm hw (by assumption))
  · exact len_ge (want57 hm hw (.inl (by assumption)))
  · exfalso; rename_i e; rw [h] at e; cases e
  · exact len_ge (want57 hm hw (.inr (by assumption)))
  · rename_i e2 e4 _ e5
    exact len_eq (want1 hm hw (by assumption) (by assumption) (by assumption) (by assumption))
theorem planShapes7_D (shape n k : Int) : DPure Try.prog 7 [int1 shape, int1 n, int1 k] (.v (.bool true)) := by
  by_cases he : (linksP shape n k).2 = 0
  · obtain ⟨m, rfl, hm, hs, hk, e, hd⟩ := linksP_ok he
    have hl := links8_D shape m k
    rw [e] at hl
    have hg := good_shape (shape := shape) (k := k) hm.1 hk
    have hd2 : degOk m (sortL (shapeL shape m k)) = true := by
      rw [degOk_iff] at hd ⊢
      intro v hv
      rw [deg_perm (sortL_perm (hg.in64 hm.2))]
      exact hd v hv
    exact shapes7_ok shape m k hm _ hl (hg.sort hm.2) (good_fit hm (hg.sort hm.2) (sortL_sorted (hg.in64 hm.2) hg.one) hd2) (by rw [sortL_len]; exact want_ok hm hs hk)
  · exact shapes7_err shape n k he
end Go.Proofs.Ytphgcgggbbcjgaa

/- Pairs and numbers, as they come in. -/
namespace Go.Proofs.Ytphgcgggbbcjgaa
open Go.RowKit Go.Dl

theorem tab44 : fldTab Try.prog 44 = some [(3, 0, 1), (3, 1, 1)] := by kernel_rfl
theorem cells44 : Try.prog.cellsOf 44 = 2 := by kernel_rfl
theorem cells2 : Try.prog.cellsOf 2 = 1 := by kernel_rfl
theorem link_row (r : List DV) (h : Shp Try.prog 44 r) : ∃ a : Lk, r = linkD a ∧ True := by
  obtain ⟨hl, h1, h2, _⟩ := Shp.struct_inv tab44 h
  rw [cells44] at hl
  match r, hl with
  | [a, b], _ =>
    obtain ⟨x, e1, _⟩ := Shp.int_inv Try.underlying3 h1
    obtain ⟨y, e2, _⟩ := Shp.int_inv Try.underlying3 h2
    cases e1; cases e2
    exact ⟨(x, y), rfl, trivial⟩
theorem int2_row (r : List DV) (h : Shp Try.prog 2 r) : ∃ x : Int, r = intD x ∧ (Lit.int .i64 x).wf = true := Shp.int_inv Try.underlying2 h
theorem int_arg {d : DV} (h : ShpV Try.prog 3 d) : ∃ x : Int, d = int1 x ∧ (Lit.int .i64 x).wf = true := ShpV.int_inv Try.underlying3 h
theorem int2_arg {d : DV} (h : ShpV Try.prog 2 d) : ∃ x : Int, d = int1 x ∧ (Lit.int .i64 x).wf = true := ShpV.int_inv Try.underlying2 h
theorem u64_arg {d : DV} (h : ShpV Try.prog 22 d) : ∃ x : Int, d = .v (.int .u64 x) ∧ (Lit.int .u64 x).wf = true := ShpV.int_inv Try.underlying22 h
theorem str_arg {d : DV} (h : ShpV Try.prog 9 d) : ∃ s, d = .v (.string s) ∧ s.size ≤ reachBytes := ShpV.str_inv Try.underlying9 h
theorem links_arg {d : DV} (h : ShpV Try.prog 23 d) : ∃ l : List Lk, d = links l := by
  obtain ⟨l, h1, _, _⟩ := ShpV.slice_inv Try.underlying23 link_row h
  rw [cells44] at h1
  exact ⟨l, h1⟩
theorem ints2_arg {d : DV} (h : ShpV Try.prog 33 d) : ∃ l : List Int, d = ints l := by
  obtain ⟨l, h1, _, _⟩ := ShpV.slice_inv Try.underlying33 int2_row h
  rw [cells2] at h1
  exact ⟨l, h1⟩
theorem Try.own : ownKnob Try.prog.godebug = none := by kernel_rfl
theorem Try.laidOut : laidOutB Try.prog = true := by kernel_rfl
end Go.Proofs.Ytphgcgggbbcjgaa
