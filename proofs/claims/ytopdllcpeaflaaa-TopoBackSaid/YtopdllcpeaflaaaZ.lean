/- What linking and unlinking do to fit rows and waits. -/
import Derived.Test.YtopdllcpeaflaaaW
namespace Go.Proofs.Ytopdllcpeaflaaa
open Go.RowKit Go.Dl

def t2 (n i t : Nat) : Nat := let a := if i < t then t - 1 else t; if n - 1 ≤ a then 0 else a
def numB (n i p t : Nat) : Bool :=
  let q := ((if p < i then p else p - 1) + ((n - 1) - t2 n i t)) % (n - 1) + 1
  let w := (p + (n - t)) % n + 1
  p == i || q == w || q == w - 1
theorem num_all : ((List.range 7).all fun n => (List.range n).all fun i => (List.range n).all fun p => (List.range n).all fun t => numB n i p t) = true := by decide
theorem wait_num {n i p t : Nat} (hn : n < 7) (hi : i < n) (hp : p < n) (ht : t < n) (h : p ≠ i) :
    ((if p < i then p else p - 1) + ((n - 1) - t2 n i t)) % (n - 1) + 1 = (p + (n - t)) % n + 1 ∨ ((if p < i then p else p - 1) + ((n - 1) - t2 n i t)) % (n - 1) + 1 = (p + (n - t)) % n + 1 - 1 := by
  have h1 := num_all
  simp only [List.all_eq_true, List.mem_range] at h1
  have := h1 n hn i hi p hp t ht
  simp only [numB, Bool.or_eq_true, beq_iff_eq] at this
  rcases this with (h2 | h2) | h2
  · exact absurd h2 h
  · exact .inl h2
  · exact .inr h2

theorem erase_mem {l : List Int} {i : Nat} (hi : i < l.length) (hnd : l.Nodup) (x : Int) : x ∈ l.eraseIdx i ↔ x ∈ l ∧ x ≠ l[i] := by
  rw [List.mem_eraseIdx_iff_getElem]
  constructor
  · rintro ⟨j, hj, hne, rfl⟩
    exact ⟨List.getElem_mem hj, fun e => hne (by have h1 := hnd.idxOf_getElem j hj; have h2 := hnd.idxOf_getElem i hi; rw [e] at h1; omega)⟩
  · rintro ⟨h1, h2⟩
    obtain ⟨j, hj, rfl⟩ := List.mem_iff_getElem.1 h1
    exact ⟨j, hj, fun e => h2 (by subst e; rfl), rfl⟩
theorem erase_idx {l : List Int} {i : Nat} (hi : i < l.length) (hnd : l.Nodup) {x : Int} (hx : x ∈ l) (hne : x ≠ l[i]) :
    (l.eraseIdx i).idxOf x = if l.idxOf x < i then l.idxOf x else l.idxOf x - 1 := by
  have hp := List.idxOf_lt_length_of_mem hx
  have e : l[l.idxOf x] = x := List.getElem_idxOf hp
  have hpi : l.idxOf x ≠ i := fun h => hne (by rw [← e]; simp [h])
  have hm : (l.eraseIdx i).Nodup := hnd.sublist (List.eraseIdx_sublist l i)
  have hlen : (l.eraseIdx i).length = l.length - 1 := List.length_eraseIdx_of_lt hi
  have key : ∀ q, (hq : q < (l.eraseIdx i).length) → (l.eraseIdx i)[q] = x → (l.eraseIdx i).idxOf x = q := fun q hq h => by
    rw [← h]; exact hm.idxOf_getElem q hq
  split
  · rename_i h
    refine key _ (by omega) ?_
    rw [List.getElem_eraseIdx_of_lt _ h]; exact e
  · rename_i h
    refine key _ (by omega) ?_
    rw [List.getElem_eraseIdx_of_ge _ (by omega)]
    have : l.idxOf x - 1 + 1 = l.idxOf x := by omega
    simp only [this]; exact e

theorem fitT_mem {id : Int} {l : List Int} (h : ∀ i, i < l.length → okAt id l i = true) : ∀ x ∈ l, nodeB x = true ∧ x ≠ id := fun x hx => by
  obtain ⟨i, hi, rfl⟩ := List.mem_iff_getElem.1 hx
  have := h i hi
  have e2 : l.getD i 0 = l[i] := by rw [List.getD_eq_getElem?_getD, List.getElem?_eq_getElem hi]; rfl
  simp only [okAt, e2, Bool.and_eq_true, Bool.not_eq_true', beq_eq_false_iff_ne] at this
  exact this.1
theorem fitT_of {id : Int} {l : List Int} {turn : Int} (h1 : nodeB id = true) (h2 : l.length ≤ 6) (h3 : 0 ≤ turn) (h4 : turn < (max l.length 1 : Nat)) (h5 : ∀ x ∈ l, nodeB x = true ∧ x ≠ id) (hnd : l.Nodup) : fitT id l turn = true := by
  unfold fitT
  simp only [Bool.and_eq_true, decide_eq_true_eq]
  refine ⟨⟨⟨⟨h1, h2⟩, h3⟩, h4⟩, fun i hi => ?_⟩
  have e2 : l.getD i 0 = l[i] := by rw [List.getD_eq_getElem?_getD, List.getElem?_eq_getElem hi]; rfl
  obtain ⟨a, b⟩ := h5 _ (List.getElem_mem hi)
  simp only [okAt, e2, Bool.and_eq_true, Bool.not_eq_true', beq_eq_false_iff_ne, hasB, decide_eq_false_iff_not]
  refine ⟨⟨a, b⟩, fun hm => ?_⟩
  obtain ⟨j, hj, e⟩ := List.mem_iff_getElem.1 hm
  rw [List.getElem_take] at e
  have hji : j < i := by simp at hj; omega
  have k1 := hnd.idxOf_getElem j (by omega)
  have k2 := hnd.idxOf_getElem i hi
  rw [e] at k1
  omega

/-- Linked. -/
theorem link_fit {id : Int} {l : List Int} {t : Nat} {v : Int} (h1 : nodeB id = true) (h4 : t < max l.length 1) (h5 : ∀ x ∈ l, nodeB x = true ∧ x ≠ id) (hnd : l.Nodup)
    (hv : nodeB v = true) (hid : v ≠ id) (hm : v ∉ l) (hl : l.length < 6) : fitT id (l ++ [v]) t = true := by
  refine fitT_of h1 (by simp; omega) (by omega) (by rw [List.length_append]; simp; omega) (fun x hx => ?_) ?_
  · rcases List.mem_append.1 hx with hx | hx
    · exact h5 x hx
    · rw [List.mem_singleton] at hx; subst hx; exact ⟨hv, hid⟩
  · rw [List.nodup_append]
    exact ⟨hnd, by simp, fun a ha b hb e => hm (by rw [List.mem_singleton] at hb; rw [← hb, ← e]; exact ha)⟩
theorem idx_push {l : List Int} {v : Int} (hm : v ∉ l) : (l ++ [v]).idxOf v = l.length := by
  induction l with
  | nil => simp
  | cons a l ih =>
    have h1 : a ≠ v := fun e => hm (by simp [e])
    have h2 : v ∉ l := fun h => hm (by simp [h])
    rw [List.cons_append, List.idxOf_cons, beq_false_of_ne h1, ih h2]; rfl
theorem link_back {l : List Int} {t : Nat} {v : Int} (h4 : t < max l.length 1) (hm : v ∉ l) : unlinkT (l ++ [v]) t v = (l, (t : Int), 0) := by
  have e := idx_push hm
  have e2 : (l ++ [v]).eraseIdx l.length = l := by rw [List.eraseIdx_append_of_length_le (Nat.le_refl _)]; simp
  unfold unlinkT
  rw [if_pos (by simp), e, e2, List.length_append]
  simp only [List.length_singleton, Nat.add_sub_cancel]
  have h1 : ¬ ((l.length : Nat) : Int) < (t : Int) := by omega
  rw [if_neg h1]
  have h2 : (if ((l.length : Nat) : Int) ≤ (t : Int) then (0 : Int) else t) = t := by split <;> omega
  rw [h2]
/-- Unlinked. -/
theorem unlink_fit {id : Int} {l : List Int} {t i : Nat} (h1 : nodeB id = true) (h2 : l.length ≤ 6) (h5 : ∀ x ∈ l, nodeB x = true ∧ x ≠ id) (hnd : l.Nodup) (hi : i < l.length) :
    fitT id (l.eraseIdx i) (t2 l.length i t : Nat) = true ∧ t2 l.length i t < max (l.eraseIdx i).length 1 := by
  have hlen : (l.eraseIdx i).length = l.length - 1 := List.length_eraseIdx_of_lt hi
  have ht : t2 l.length i t < max (l.eraseIdx i).length 1 := by
    rw [hlen]; unfold t2; simp only; split <;> split <;> omega
  exact ⟨fitT_of h1 (by omega) (by omega) (by omega) (fun x hx => h5 x (List.mem_of_mem_eraseIdx hx)) (hnd.sublist (List.eraseIdx_sublist l i)), ht⟩
theorem unlink_eq {l : List Int} {t : Nat} {v : Int} (hm : v ∈ l) : unlinkT l t v = (l.eraseIdx (l.idxOf v), ((t2 l.length (l.idxOf v) t : Nat) : Int), 0) := by
  unfold unlinkT
  rw [if_pos hm]
  have e : (if ((l.idxOf v : Nat) : Int) < (t : Int) then (t : Int) - 1 else (t : Int)) = ((if l.idxOf v < t then t - 1 else t : Nat) : Int) := by split <;> split <;> omega
  simp only [e]
  have e2 : (if ((l.length - 1 : Nat) : Int) ≤ ((if l.idxOf v < t then t - 1 else t : Nat) : Int) then (0 : Int) else ((if l.idxOf v < t then t - 1 else t : Nat) : Int)) = ((t2 l.length (l.idxOf v) t : Nat) : Int) := by
    unfold t2
    simp only
    generalize (if l.idxOf v < t then t - 1 else t) = a
    split <;> split <;> omega
  rw [e2]
theorem unlink_wait {l : List Int} {t : Nat} {v x : Int} (h2 : l.length ≤ 6) (h4 : t < l.length) (hnd : l.Nodup) (hm : v ∈ l) (hx : x ∈ l.eraseIdx (l.idxOf v)) :
    (waitT (l.eraseIdx (l.idxOf v)) (t2 l.length (l.idxOf v) t) x : Int) = waitT l t x ∨ (waitT (l.eraseIdx (l.idxOf v)) (t2 l.length (l.idxOf v) t) x : Int) = (waitT l t x : Int) - 1 := by
  have hi := List.idxOf_lt_length_of_mem hm
  have hlv : l[l.idxOf v] = v := List.getElem_idxOf hi
  obtain ⟨hx1, hx2⟩ := (erase_mem hi hnd x).1 hx
  have hp := List.idxOf_lt_length_of_mem hx1
  have hpi : l.idxOf x ≠ l.idxOf v := fun h => hx2 (by simp only [← h]; exact (List.getElem_idxOf hp).symm)
  have hlen : (l.eraseIdx (l.idxOf v)).length = l.length - 1 := List.length_eraseIdx_of_lt hi
  have := wait_num (n := l.length) (by omega) hi hp h4 hpi
  unfold waitT
  rw [if_pos hx, if_pos hx1, erase_idx hi hnd hx1 hx2, hlen]
  rcases this with h | h
  · left; rw [h]
  · right; rw [h]; omega
end Go.Proofs.Ytopdllcpeaflaaa
