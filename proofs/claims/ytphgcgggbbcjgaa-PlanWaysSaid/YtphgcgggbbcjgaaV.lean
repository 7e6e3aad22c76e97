/- Distances both ways, of neighbours, and who is reached. -/
import Derived.Test.YtphgcgggbbcjgaaU
namespace Go.Proofs.Ytphgcgggbbcjgaa
open Go.RowKit Go.Dl

theorem relax_neg {r : Nat} {D : List Int} {a b : Nat} (h : ∀ x ∈ D, x = -1 ∨ 0 ≤ x) : ∀ x ∈ relax r D a b, x = -1 ∨ 0 ≤ x := by
  unfold relax
  split
  · intro x hx
    rcases List.mem_or_eq_of_mem_set hx with h1 | h1
    · exact h x h1
    · right; omega
  · exact h
theorem fold_neg {r : Nat} (l : List Lk) : ∀ D : List Int, (∀ x ∈ D, x = -1 ∨ 0 ≤ x) → ∀ x ∈ l.foldl (stepD r) D, x = -1 ∨ 0 ≤ x := by
  induction l with
  | nil => intro D h; exact h
  | cons y l ih => intro D h; exact ih _ (relax_neg (relax_neg h))
theorem rounds_neg (n : Nat) (l : List Lk) (f : Int) (k : Nat) : ∀ x ∈ roundsD n l f k, x = -1 ∨ 0 ≤ x := by
  induction k with
  | zero =>
    intro x hx
    rcases List.mem_or_eq_of_mem_set hx with h1 | h1
    · exact .inl (List.mem_replicate.1 h1).2
    · right; omega
  | succ k ih => rw [rounds_succ]; exact fold_neg l _ ih
theorem d_rng {n : Nat} {l : List Lk} {a v : Nat} (ha : a < n) (hv : v < n) : ((distT n l a).getD v 0 = -1 ∨ 0 ≤ (distT n l a).getD v 0) ∧ (distT n l a).getD v 0 ≤ n := by
  have hlen := distT_len n l a
  have key : ∀ x ∈ distT n l a, (x = -1 ∨ 0 ≤ x) ∧ x ≤ n := by
    rw [distT_in (show 0 ≤ (a : Int) ∧ (a : Int) < n by omega)]
    exact fun x hx => ⟨rounds_neg n l a n _ hx, rounds_le n l a n _ hx⟩
  rw [List.getD_eq_getElem?_getD, List.getElem?_eq_getElem (by omega), Option.getD_some]
  exact key _ (List.getElem_mem (l := distT n l a) (n := v) (by omega))
theorem d_sym {n : Nat} {l : List Lk} (hl : inN n l) {a b : Nat} (ha : a < n) (hb : b < n) : (distT n l a).getD b 0 = (distT n l b).getD a 0 := by
  by_cases h : 0 ≤ (distT n l a).getD b 0
  · exact (dist_symm hl ha hb h).symm
  · have h2 : ¬ 0 ≤ (distT n l b).getD a 0 := fun hh => h ((dist_symm_iff hl ha hb).2 hh)
    have r1 := (d_rng (l := l) ha hb).1
    have r2 := (d_rng (l := l) hb ha).1
    omega
theorem d_zero {n : Nat} {l : List Lk} (hl : inN n l) {a b : Nat} (ha : a < n) (hb : b < n) (hne : a ≠ b) : (distT n l a).getD b 0 ≠ 0 := fun h => by
  have h1 := dist_least (f := (a : Int)) (by omega) hl hb (by omega)
  rw [h] at h1
  exact hne h1.1
theorem d_walk {n : Nat} {l : List Lk} (hl : inN n l) {a b : Nat} (ha : a < n) (hb : b < n) : 0 ≤ (distT n l a).getD b 0 ↔ ∃ m, WalkL l m a b := by
  constructor
  · intro h
    exact ⟨_, (dist_least (f := (a : Int)) (by omega) hl hb h).1⟩
  · rintro ⟨m, h⟩
    exact dist_walk (f := (a : Int)) (by omega) hl hb (m := m) h
theorem d_edge {n : Nat} {l : List Lk} (hl : inN n l) {a : Nat} (ha : a < n) {u v : Nat} (hu : u < n) (hv : v < n) (he : EdgeL l u v) (h : 0 ≤ (distT n l a).getD u 0) : 0 ≤ (distT n l a).getD v 0 ∧ (distT n l a).getD v 0 ≤ (distT n l a).getD u 0 + 1 := by
  have h1 := dist_least (f := (a : Int)) (by omega) hl hu h
  have hw : WalkL l (((distT n l a).getD u 0).toNat + 1) (a : Int).toNat v := ⟨u, h1.1, he⟩
  have h2 := dist_walk (f := (a : Int)) (by omega) hl hv hw
  have h3 := dist_least (f := (a : Int)) (by omega) hl hv h2
  refine ⟨h2, ?_⟩
  rcases Nat.lt_or_ge (((distT n l a).getD u 0).toNat + 1) ((distT n l a).getD v 0).toNat with h4 | h4
  · exact absurd hw (h3.2 _ h4)
  · omega
theorem ls_least {p : Nat → Bool} {n x : Nat} (hx : x < n) (hp : p x = true) : ∃ v, v < n ∧ lsP p n x n = (v : Nat) ∧ p v = true ∧ ∀ w, w < v → p w = false := by
  have key : ∀ k, k ≤ n → (lsP p n x k = x ∧ ∀ w, n - k ≤ w → w < n → p w = false) ∨ (∃ v, n - k ≤ v ∧ v < n ∧ lsP p n x k = (v : Nat) ∧ p v = true ∧ ∀ w, n - k ≤ w → w < v → p w = false) := fun k => by
    induction k with
    | zero => intro _; exact .inl ⟨rfl, fun w h1 h2 => by omega⟩
    | succ k ih =>
      intro hk
      rw [lsP]
      by_cases h : p (n - 1 - k) = true
      · rw [if_pos h]
        exact .inr ⟨n - 1 - k, by omega, by omega, rfl, h, fun w h1 h2 => by omega⟩
      · rw [if_neg h]
        have hf : p (n - 1 - k) = false := by simpa using h
        rcases ih (by omega) with ⟨i1, i2⟩ | ⟨v, i1, i2, i3, i4, i5⟩
        · refine .inl ⟨i1, fun w h1 h2 => ?_⟩
          by_cases e : w = n - 1 - k
          · rw [e]; exact hf
          · exact i2 w (by omega) h2
        · refine .inr ⟨v, by omega, i2, i3, i4, fun w h1 h2 => ?_⟩
          by_cases e : w = n - 1 - k
          · rw [e]; exact hf
          · exact i5 w (by omega) h2
  rcases key n (Nat.le_refl _) with ⟨_, h⟩ | ⟨v, _, h2, h3, h4, h5⟩
  · have := h x (by omega) hx; rw [hp] at this; cases this
  · exact ⟨v, h2, h3, h4, fun w hw => h5 w (by omega) hw⟩
theorem parts_get {n : Nat} {l : List Lk} {x : Nat} (hx : x < n) : (partsT n l).getD x 0 = lsP (fun i => joinB n l x i) n x n := by
  unfold partsT lfL
  rw [List.getD_eq_getElem?_getD, List.getElem?_map, List.getElem?_range hx]; rfl
theorem join_walk {n : Nat} {l : List Lk} (hl : inN n l) {a b : Nat} (ha : a < n) (hb : b < n) : joinB n l a b = true ↔ ∃ m, WalkL l m a b := by
  unfold joinB
  rw [decide_eq_true_eq, d_walk hl ha hb]
theorem p_iff {n : Nat} {l : List Lk} (hl : inN n l) {a b : Nat} (ha : a < n) (hb : b < n) : 0 ≤ (distT n l a).getD b 0 ↔ (partsT n l).getD a 0 = (partsT n l).getD b 0 := by
  rw [parts_get ha, parts_get hb]
  obtain ⟨v, v1, v2, v3, v4⟩ := ls_least (p := fun i => joinB n l a i) (x := a) ha ((join_walk hl ha ha).2 ⟨0, rfl⟩)
  obtain ⟨w, w1, w2, w3, w4⟩ := ls_least (p := fun i => joinB n l b i) (x := b) hb ((join_walk hl hb hb).2 ⟨0, rfl⟩)
  rw [v2, w2, d_walk hl ha hb]
  have v3 := (join_walk hl ha v1).1 v3
  have w3 := (join_walk hl hb w1).1 w3
  constructor
  · rintro ⟨m, hm⟩
    rcases Nat.lt_trichotomy v w with h | h | h
    · obtain ⟨j, hj⟩ := v3
      have := w4 v h
      rw [(join_walk hl hb v1).2 ⟨_, hm.symm.append hj⟩] at this; cases this
    · rw [h]
    · obtain ⟨j, hj⟩ := w3
      have := v4 w h
      rw [(join_walk hl ha w1).2 ⟨_, hm.append hj⟩] at this; cases this
  · intro h
    have h : v = w := by omega
    subst h
    obtain ⟨i, hi⟩ := v3
    obtain ⟨j, hj⟩ := w3
    exact ⟨_, hi.append hj.symm⟩
end Go.Proofs.Ytphgcgggbbcjgaa
