/- The least node that each node is joined with. -/
import Derived.Test.YtphgcgggbbcjgaaI
namespace Go.Proofs.Ytphgcgggbbcjgaa
open Go.RowKit Go.Dl

def joinB (n : Nat) (l : List Lk) (v x : Nat) : Bool := decide (0 ≤ (distT n l v).getD x 0)
def mnP (p : Nat → Bool) (n x : Nat) : Nat → Int
  | 0 => x
  | k + 1 => if p (n - 1 - k) = true then (if ((n - 1 - k : Nat) : Int) < mnP p n x k then ((n - 1 - k : Nat) : Int) else mnP p n x k) else mnP p n x k
def lsP (p : Nat → Bool) (n x : Nat) : Nat → Int
  | 0 => x
  | k + 1 => if p (n - 1 - k) = true then ((n - 1 - k : Nat) : Int) else lsP p n x k
theorem lsP_ge (p : Nat → Bool) (n x : Nat) : ∀ k, k ≤ n → lsP p n x k = x ∨ ((n - k : Nat) : Int) ≤ lsP p n x k := fun k => by
  induction k with
  | zero => intro _; exact .inl rfl
  | succ k ih =>
    intro hk
    unfold lsP
    split
    · right; omega
    · rcases ih (by omega) with h | h
      · exact .inl h
      · right; omega
theorem mn_ls (p : Nat → Bool) (n x : Nat) : ∀ k, k ≤ n → mnP p n x k = min (x : Int) (lsP p n x k) := fun k => by
  induction k with
  | zero => intro _; simp [mnP, lsP]
  | succ k ih =>
    intro hk
    have h1 := ih (by omega)
    have h2 := lsP_ge p n x k (by omega)
    unfold mnP lsP
    split
    · rw [h1]
      split <;> omega
    · exact h1
theorem ls_le (p : Nat → Bool) (n x : Nat) (hx : x < n) (hp : p x = true) : ∀ k, k ≤ n → n - k ≤ x → lsP p n x k ≤ x := fun k => by
  induction k with
  | zero => intro _ h; omega
  | succ k ih =>
    intro hk h
    unfold lsP
    split
    · omega
    · rename_i hn
      by_cases h1 : n - k ≤ x
      · exact ih (by omega) h1
      · have : n - 1 - k = x := by omega
        rw [this] at hn
        exact absurd hp hn
theorem mn_eq_ls (p : Nat → Bool) (n x : Nat) (hx : x < n) (hp : p x = true) : mnP p n x n = lsP p n x n := by
  have h1 := mn_ls p n x n (Nat.le_refl _)
  have h2 := ls_le p n x hx hp n (Nat.le_refl _) (by omega)
  omega
theorem lsP_congr {p q : Nat → Bool} {n x : Nat} (h : ∀ v, v < n → p v = q v) : ∀ k, k ≤ n → lsP p n x k = lsP q n x k := fun k => by
  induction k with
  | zero => intro _; rfl
  | succ k ih =>
    intro hk
    unfold lsP
    rw [h _ (by omega), ih (by omega)]
def pfL (n : Nat) (l : List Lk) (k : Nat) : List Int := (List.range n).map fun x => mnP (fun v => joinB n l v x) n x k
def lfL (n : Nat) (l : List Lk) (k : Nat) : List Int := (List.range k).map fun x => lsP (fun i => joinB n l x i) n x n
def partsT (n : Nat) (l : List Lk) : List Int := lfL n l n
theorem self_dist {n : Nat} {l : List Lk} (hl : inN n l) {x : Nat} (hx : x < n) : (distT n l x).getD x 0 = 0 := by
  have h1 := dist_walk (l := l) (f := (x : Int)) (by omega) hl hx (m := 0) (by show (x : Int).toNat = x; omega)
  have h2 := dist_least (f := (x : Int)) (by omega) hl hx h1
  have h3 : LeastW l 0 (x : Int).toNat x := ⟨by show (x : Int).toNat = x; omega, fun j hj => absurd hj (Nat.not_lt_zero _)⟩
  have := h2.uniq h3
  omega
theorem pf_parts {n : Nat} {l : List Lk} (hl : inN n l) : pfL n l n = partsT n l := by
  unfold pfL partsT lfL
  apply List.map_congr_left
  intro x hx
  have hx : x < n := List.mem_range.1 hx
  rw [mn_eq_ls _ n x hx (by show joinB n l x x = true; unfold joinB; rw [self_dist hl hx]; rfl)]
  refine lsP_congr (fun v hv => ?_) n (Nat.le_refl _)
  unfold joinB
  exact decide_eq_decide.2 (dist_symm_iff hl hv hx)
def mixL (n : Nat) (l : List Lk) (k i : Nat) : List Int := (List.range n).map fun x => mnP (fun v => joinB n l v x) n x (if x < i then k + 1 else k)
theorem mix_zero (n : Nat) (l : List Lk) (k : Nat) : mixL n l k 0 = pfL n l k := rfl
theorem mix_all (n : Nat) (l : List Lk) (k : Nat) : mixL n l k n = pfL n l (k + 1) := by
  unfold mixL pfL
  apply List.map_congr_left
  intro x hx
  rw [if_pos (List.mem_range.1 hx)]
theorem mix_len (n : Nat) (l : List Lk) (k i : Nat) : (mixL n l k i).length = n := by simp [mixL]
theorem pf_len (n : Nat) (l : List Lk) (k : Nat) : (pfL n l k).length = n := by simp [pfL]
theorem mix_get {n : Nat} {l : List Lk} {k i : Nat} (hi : i < n) : (mixL n l k i).getD i 0 = mnP (fun v => joinB n l v i) n i k := by
  unfold mixL
  rw [List.getD_eq_getElem?_getD, List.getElem?_map, List.getElem?_range hi]
  simp
theorem mix_set {n : Nat} {l : List Lk} {k i : Nat} {w : Int} (hi : i < n) (hw : w = mnP (fun v => joinB n l v i) n i (k + 1)) : (mixL n l k i).set i w = mixL n l k (i + 1) := by
  subst hw
  apply List.ext_getElem?
  intro j
  rw [List.getElem?_set]
  unfold mixL
  by_cases hj : j < n
  · rw [List.getElem?_map, List.getElem?_map, List.getElem?_range hj]
    by_cases e : i = j
    · subst e
      rw [if_pos rfl, if_pos (by simpa using hi)]
      simp
    · rw [if_neg e]
      simp only [Option.map_some]
      congr 2
      by_cases h : j < i
      · rw [if_pos h, if_pos (by omega)]
      · rw [if_neg h, if_neg (by omega)]
  · rw [if_neg (by omega)]
    rw [List.getElem?_eq_none (by simp; omega), List.getElem?_eq_none (by simp; omega)]
theorem mix_keep {n : Nat} {l : List Lk} {k i : Nat} (hi : i < n) (h : ¬ joinB n l (n - 1 - k) i = true) : mixL n l k i = mixL n l k (i + 1) := by
  have e : mnP (fun v => joinB n l v i) n i (k + 1) = mnP (fun v => joinB n l v i) n i k := by
    rw [mnP, if_neg h]
  have h2 := mix_set (n := n) (l := l) (k := k) hi e.symm
  rw [← h2]
  have h3 := mix_get (n := n) (l := l) (k := k) hi
  rw [← h3]
  apply List.ext_getElem?
  intro j
  rw [List.getElem?_set]
  by_cases e : i = j
  · subst e
    rw [if_pos rfl, if_pos (by rw [mix_len]; exact hi), List.getD_eq_getElem?_getD, List.getElem?_eq_getElem (by rw [mix_len]; exact hi)]; rfl
  · rw [if_neg e]
end Go.Proofs.Ytphgcgggbbcjgaa
