/- What the distances say: the least number of edges of a walk. -/
import Derived.Test.YtphgcgggbbcjgaaG
namespace Go.Proofs.Ytphgcgggbbcjgaa
open Go.RowKit Go.Dl

/-- An edge between two nodes. -/
def EdgeL (l : List Lk) (a b : Nat) : Prop := ∃ x ∈ l, (x.1.toNat = a ∧ x.2.toNat = b) ∨ (x.2.toNat = a ∧ x.1.toNat = b)
theorem EdgeL.symm {l : List Lk} {a b : Nat} (h : EdgeL l a b) : EdgeL l b a := by
  obtain ⟨x, hx, h | h⟩ := h
  · exact ⟨x, hx, .inr ⟨h.2, h.1⟩⟩
  · exact ⟨x, hx, .inl ⟨h.2, h.1⟩⟩
/-- A walk of so many edges. -/
def WalkL (l : List Lk) : Nat → Nat → Nat → Prop
  | 0, a, b => a = b
  | k + 1, a, b => ∃ c, WalkL l k a c ∧ EdgeL l c b
theorem WalkL.head {l : List Lk} {k : Nat} : ∀ {a b c : Nat}, EdgeL l a b → WalkL l k b c → WalkL l (k + 1) a c := by
  induction k with
  | zero => intro a b c h1 h2; cases h2; exact ⟨a, rfl, h1⟩
  | succ k ih =>
    intro a b c h1 ⟨d, h2, h3⟩
    exact ⟨d, ih h1 h2, h3⟩
theorem WalkL.symm {l : List Lk} {k : Nat} : ∀ {a b : Nat}, WalkL l k a b → WalkL l k b a := by
  induction k with
  | zero => intro a b h; exact Eq.symm h
  | succ k ih =>
    intro a b ⟨c, h1, h2⟩
    exact WalkL.head h2.symm (ih h1)
theorem WalkL.append {l : List Lk} {k j : Nat} {a b c : Nat} (h1 : WalkL l k a b) (h2 : WalkL l j b c) : WalkL l (k + j) a c := by
  induction j generalizing c with
  | zero => cases h2; exact h1
  | succ j ih =>
    obtain ⟨d, h3, h4⟩ := h2
    exact ⟨d, ih h3, h4⟩
/-- The least number of edges. -/
def LeastW (l : List Lk) (k a b : Nat) : Prop := WalkL l k a b ∧ ∀ j, j < k → ¬ WalkL l j a b
theorem LeastW.symm {l : List Lk} {k a b : Nat} (h : LeastW l k a b) : LeastW l k b a := ⟨h.1.symm, fun j hj hw => h.2 j hj hw.symm⟩
theorem LeastW.uniq {l : List Lk} {k j a b : Nat} (h1 : LeastW l k a b) (h2 : LeastW l j a b) : k = j := by
  rcases Nat.lt_trichotomy k j with h | h | h
  · exact absurd h1.1 (h2.2 k h)
  · exact h
  · exact absurd h2.1 (h1.2 j h)
theorem walk_least {l : List Lk} {a b : Nat} : ∀ k, WalkL l k a b → ∃ j, j ≤ k ∧ LeastW l j a b := fun k => by
  induction k using Nat.strongRecOn with
  | _ k ih =>
    intro h
    by_cases hh : ∃ j, j < k ∧ WalkL l j a b
    · obtain ⟨j, hj, hw⟩ := hh
      obtain ⟨i, hi, hl⟩ := ih j hj hw
      exact ⟨i, by omega, hl⟩
    · exact ⟨k, Nat.le_refl _, h, fun j hj hw => hh ⟨j, hj, hw⟩⟩

/-- What one round does to a node. -/
def afterR (l : List Lk) (D : List Int) (r v : Nat) (x : Int) : Prop :=
  (0 ≤ D.getD v 0 ∧ x = D.getD v 0) ∨ (D.getD v 0 < 0 ∧ (∃ a, EdgeL l a v ∧ D.getD a 0 = r) ∧ x = (r : Int) + 1) ∨ (D.getD v 0 < 0 ∧ (¬ ∃ a, EdgeL l a v ∧ D.getD a 0 = r) ∧ x < 0)
theorem relax_get {r : Int} {D : List Int} {a b v : Nat} (hb : b < D.length) (hv : v < D.length) : (relax r D a b).getD v 0 = if v = b ∧ D.getD a 0 = r ∧ D.getD b 0 < 0 then r + 1 else D.getD v 0 := by
  unfold relax relaxT
  by_cases h1 : D.getD a 0 = r
  · by_cases h2 : D.getD b 0 < 0
    · have e : (bif D.getD a 0 == r then decide (D.getD b 0 < 0) else false) = true := by
        rw [show (D.getD a 0 == r) = true by rw [h1]; exact beq_self_eq_true r]
        exact decide_eq_true h2
      rw [if_pos e]
      by_cases h3 : v = b
      · subst h3
        rw [if_pos ⟨rfl, h1, h2⟩, List.getD_eq_getElem?_getD, List.getElem?_set_self hv]; rfl
      · rw [if_neg (fun h => h3 h.1), List.getD_eq_getElem?_getD, List.getElem?_set_ne (fun h => h3 h.symm), ← List.getD_eq_getElem?_getD]
    · have e : ¬ (bif D.getD a 0 == r then decide (D.getD b 0 < 0) else false) = true := by
        rw [show (D.getD a 0 == r) = true by rw [h1]; exact beq_self_eq_true r]
        simpa using h2
      rw [if_neg e, if_neg (fun h => h2 h.2.2)]
  · have e : ¬ (bif D.getD a 0 == r then decide (D.getD b 0 < 0) else false) = true := by
      rw [show (D.getD a 0 == r) = false from beq_eq_false_iff_ne.2 h1]
      exact Bool.false_ne_true
    rw [if_neg e, if_neg (fun h => h1 h.2.1)]

theorem after_arith {p : Prop} {v A B : Nat} {r ev dv eA dA eB dB rv rB rA x : Int} (hr : 0 ≤ r)
    (hE : (0 ≤ dv ∧ ev = dv) ∨ (dv < 0 ∧ p ∧ ev = r + 1) ∨ (dv < 0 ∧ ¬ p ∧ ev < 0)) (b1 : eA = r ↔ dA = r) (b2 : eB = r ↔ dB = r)
    (e1 : rv = if v = B ∧ eA = r ∧ eB < 0 then r + 1 else ev) (e3 : rB = if B = B ∧ eA = r ∧ eB < 0 then r + 1 else eB) (e4 : rA = if A = B ∧ eA = r ∧ eB < 0 then r + 1 else eA)
    (hA : A = v → eA = ev ∧ dA = dv) (hB : B = v → eB = ev ∧ dB = dv) (hx : x = if v = A ∧ rB = r ∧ rA < 0 then r + 1 else rv) :
    (0 ≤ dv ∧ x = dv) ∨ (dv < 0 ∧ (p ∨ (v = B ∧ dA = r) ∨ (v = A ∧ dB = r)) ∧ x = r + 1) ∨ (dv < 0 ∧ ¬ (p ∨ (v = B ∧ dA = r) ∨ (v = A ∧ dB = r)) ∧ x < 0) := by
  rcases hE with ⟨hd, he⟩ | ⟨hd, hp, he⟩ | ⟨hd, hp, he⟩
  · left
    refine ⟨hd, ?_⟩
    rw [if_neg (by rintro ⟨h1, _, h3⟩; have := hB h1.symm; omega)] at e1
    rw [if_neg] at hx
    · omega
    · rintro ⟨h1, _, h3⟩
      have k := hA h1.symm
      rw [if_neg (by rintro ⟨h4, _, h5⟩; have := hB (h4.symm.trans h1.symm); omega)] at e4
      omega
  · right; left
    refine ⟨hd, .inl hp, ?_⟩
    have : rv = r + 1 := by rw [e1]; split <;> omega
    rw [hx]; split <;> omega
  · right
    by_cases cB : v = B ∧ dA = r
    · left
      refine ⟨hd, .inr (.inl cB), ?_⟩
      have k := hB cB.1.symm
      rw [if_pos ⟨cB.1, b1.2 cB.2, by omega⟩] at e1
      rw [hx]; split <;> omega
    · by_cases cA : v = A ∧ dB = r
      · left
        refine ⟨hd, .inr (.inr cA), ?_⟩
        have k := hA cA.1.symm
        have k2 := b2.2 cA.2
        rw [if_neg (by rintro ⟨_, _, h⟩; omega)] at e3
        rw [if_neg (by rintro ⟨_, _, h⟩; omega)] at e4
        rw [if_pos ⟨cA.1, by omega, by omega⟩] at hx
        exact hx
      · right
        refine ⟨hd, fun h => h.elim hp fun h => h.elim cB cA, ?_⟩
        rw [if_neg (by rintro ⟨h1, h2, _⟩; exact cB ⟨h1, b1.1 h2⟩)] at e1
        rw [if_neg] at hx
        · omega
        · rintro ⟨h1, h2, h3⟩
          refine cA ⟨h1, b2.1 ?_⟩
          split at e3 <;> omega
theorem step_after {l : List Lk} {D E : List Int} {r : Nat} {x : Lk} (hl : E.length = D.length) (h1 : x.1.toNat < D.length) (h2 : x.2.toNat < D.length) (h : ∀ v, v < D.length → afterR l D r v (E.getD v 0)) :
    ∀ v, v < D.length → afterR (l ++ [x]) D r v ((stepD r E x).getD v 0) := by
  have mono : ∀ {a v : Nat}, EdgeL l a v → EdgeL (l ++ [x]) a v := fun ⟨y, hy, h⟩ => ⟨y, List.mem_append_left _ hy, h⟩
  -- a node whose value is r in E has it in D
  have back : ∀ a, a < D.length → (E.getD a 0 = r ↔ D.getD a 0 = r) := fun a ha => by
    rcases h a ha with ⟨k1, k2⟩ | ⟨k1, _, k2⟩ | ⟨k1, _, k2⟩ <;> omega
  have neg : ∀ a, a < D.length → E.getD a 0 < 0 → D.getD a 0 < 0 := fun a ha hn => by
    rcases h a ha with ⟨k1, k2⟩ | ⟨k1, _, k2⟩ | ⟨k1, _, k2⟩ <;> omega
  intro v hv
  have e1 := relax_get (r := (r : Int)) (a := x.1.toNat) (b := x.2.toNat) (v := v) (by omega) (by omega : v < E.length)
  have e2 := relax_get (r := (r : Int)) (D := relax r E x.1.toNat x.2.toNat) (a := x.2.toNat) (b := x.1.toNat) (v := v) (by rw [relax_len]; omega) (by rw [relax_len]; omega)
  have e3 := relax_get (r := (r : Int)) (D := E) (a := x.1.toNat) (b := x.2.toNat) (v := x.2.toNat) (by omega) (by omega)
  have e4 := relax_get (r := (r : Int)) (D := E) (a := x.1.toNat) (b := x.2.toNat) (v := x.1.toNat) (by omega) (by omega)
  unfold stepD
  rw [e2]
  have b1 := back _ h1
  have b2 := back _ h2
  have hE := h v hv
  have iff : (∃ a, EdgeL (l ++ [x]) a v ∧ D.getD a 0 = r) ↔ (∃ a, EdgeL l a v ∧ D.getD a 0 = r) ∨ (v = x.2.toNat ∧ D.getD x.1.toNat 0 = r) ∨ (v = x.1.toNat ∧ D.getD x.2.toNat 0 = r) := by
    constructor
    · rintro ⟨a, ⟨y, hy, he⟩, hr⟩
      rcases List.mem_append.1 hy with hy | hy
      · exact .inl ⟨a, ⟨y, hy, he⟩, hr⟩
      · rw [List.mem_singleton] at hy
        subst hy
        rcases he with ⟨k1, k2⟩ | ⟨k1, k2⟩
        · exact .inr (.inl ⟨k2.symm, by rw [k1]; exact hr⟩)
        · exact .inr (.inr ⟨k2.symm, by rw [k1]; exact hr⟩)
    · rintro (⟨a, he, hr⟩ | ⟨rfl, hr⟩ | ⟨rfl, hr⟩)
      · exact ⟨a, mono he, hr⟩
      · exact ⟨_, ⟨x, by simp, .inl ⟨rfl, rfl⟩⟩, hr⟩
      · exact ⟨_, ⟨x, by simp, .inr ⟨rfl, rfl⟩⟩, hr⟩
  unfold afterR
  rw [iff]
  unfold afterR at hE
  generalize (∃ a, EdgeL l a v ∧ D.getD a 0 = (r : Int)) = p at hE ⊢
  have hx1 : x.1.toNat = v → E.getD x.1.toNat 0 = E.getD v 0 ∧ D.getD x.1.toNat 0 = D.getD v 0 := fun e => by rw [e]; exact ⟨rfl, rfl⟩
  have hx2 : x.2.toNat = v → E.getD x.2.toNat 0 = E.getD v 0 ∧ D.getD x.2.toNat 0 = D.getD v 0 := fun e => by rw [e]; exact ⟨rfl, rfl⟩
  generalize hA : x.1.toNat = A at *
  generalize hB : x.2.toNat = B at *
  generalize (relax (r : Int) E A B).getD v 0 = rv at *
  generalize (relax (r : Int) E A B).getD B 0 = rB at *
  generalize (relax (r : Int) E A B).getD A 0 = rA at *
  generalize E.getD v 0 = ev at *
  generalize E.getD A 0 = eA at *
  generalize E.getD B 0 = eB at *
  generalize D.getD v 0 = dv at *
  generalize D.getD A 0 = dA at *
  generalize D.getD B 0 = dB at *
  clear h back neg iff mono
  exact after_arith (by omega) hE b1 b2 e1 e3 e4 hx1 hx2 rfl
theorem inN_mem {n : Nat} {l : List Lk} (h : inN n l) {x : Lk} (hx : x ∈ l) : x.1.toNat < n ∧ x.2.toNat < n := by
  obtain ⟨i, hi, e⟩ := List.mem_iff_getElem.1 hx
  have := h i hi
  rw [List.getD_eq_getElem?_getD, List.getElem?_eq_getElem hi, Option.getD_some, e] at this
  omega
theorem fold_after {D : List Int} {r : Nat} (l2 : List Lk) : ∀ (l1 : List Lk) (E : List Int), E.length = D.length → (∀ x ∈ l2, x.1.toNat < D.length ∧ x.2.toNat < D.length) → (∀ v, v < D.length → afterR l1 D r v (E.getD v 0)) →
    ∀ v, v < D.length → afterR (l1 ++ l2) D r v ((l2.foldl (stepD r) E).getD v 0) := by
  induction l2 with
  | nil => intro l1 E _ _ h; simpa using h
  | cons x l2 ih =>
    intro l1 E hE hx h
    have h0 := hx x (List.mem_cons_self ..)
    have := ih (l1 ++ [x]) (stepD r E x) (by rw [stepD_len, hE]) (fun y hy => hx y (List.mem_cons_of_mem _ hy)) (step_after hE h0.1 h0.2 h)
    simpa using this
theorem round_after {n : Nat} {D : List Int} {r : Nat} {l : List Lk} (hD : D.length = n) (hl : inN n l) : ∀ v, v < n → afterR l D r v ((roundD l D r).getD v 0) := by
  subst hD
  have := fold_after (D := D) (r := r) l [] D rfl (fun x hx => inN_mem hl hx) (fun v hv => by
    by_cases h : 0 ≤ D.getD v 0
    · exact .inl ⟨h, rfl⟩
    · exact .inr (.inr ⟨by omega, fun ⟨a, ⟨y, hy, _⟩, _⟩ => by simp at hy, by omega⟩))
  exact this
theorem edge_lt {n : Nat} {l : List Lk} (hl : inN n l) {a b : Nat} (h : EdgeL l a b) : a < n ∧ b < n := by
  obtain ⟨x, hx, h | h⟩ := h
  · have := inN_mem hl hx; omega
  · have := inN_mem hl hx; omega
theorem dist_char {n : Nat} {l : List Lk} {f : Int} (hf : 0 ≤ f ∧ f < n) (hl : inN n l) (k : Nat) : ∀ v, v < n →
    (0 ≤ (roundsD n l f k).getD v 0 → LeastW l ((roundsD n l f k).getD v 0).toNat f.toNat v ∧ (roundsD n l f k).getD v 0 ≤ k) ∧
    ((roundsD n l f k).getD v 0 < 0 → ∀ j, j ≤ k → ¬ WalkL l j f.toNat v) := by
  induction k with
  | zero =>
    intro v hv
    have e : (roundsD n l f 0).getD v 0 = if v = f.toNat then 0 else -1 := by
      show (((List.replicate n (-1)).set f.toNat 0).getD v 0 : Int) = _
      by_cases h : v = f.toNat
      · subst h
        rw [if_pos rfl, List.getD_eq_getElem?_getD, List.getElem?_set_self (by simpa using hv)]; rfl
      · rw [if_neg h, List.getD_eq_getElem?_getD, List.getElem?_set_ne (fun e => h e.symm), List.getElem?_replicate, if_pos hv]; rfl
    rw [e]
    by_cases h : v = f.toNat
    · rw [if_pos h]
      exact ⟨fun _ => ⟨⟨h.symm, fun j hj => absurd hj (Nat.not_lt_zero _)⟩, by omega⟩, fun hh => absurd hh (by omega)⟩
    · rw [if_neg h]
      refine ⟨fun hh => absurd hh (by omega), fun _ j hj hw => ?_⟩
      have : j = 0 := by omega
      subst this
      exact h (Eq.symm hw)
  | succ k ih =>
    intro v hv
    have hA := round_after (r := k) (roundsD_len n l f k) hl v hv
    rw [← rounds_succ] at hA
    obtain ⟨i1, i2⟩ := ih v hv
    rcases hA with ⟨k1, k2⟩ | ⟨k1, ⟨a, he, ha⟩, k2⟩ | ⟨k1, k3, k2⟩
    · rw [k2]
      exact ⟨fun h => ⟨(i1 h).1, by have := (i1 h).2; omega⟩, fun h => absurd k1 (by omega)⟩
    · rw [k2]
      refine ⟨fun _ => ⟨?_, by omega⟩, fun h => absurd h (by omega)⟩
      have h1 := ((ih a (edge_lt hl he).1).1 (by omega)).1
      rw [ha] at h1
      have e : ((k : Int) + 1).toNat = k + 1 := by omega
      rw [e]
      exact ⟨⟨a, by simpa using h1.1, he⟩, fun j hj => i2 k1 j (by omega)⟩
    · refine ⟨fun h => absurd h (by omega), fun _ j hj hw => ?_⟩
      rcases Nat.lt_or_ge k j with h1 | h1
      · have : j = k + 1 := by omega
        subst this
        obtain ⟨c, hc, he⟩ := hw
        have hcn := (edge_lt hl he).1
        obtain ⟨c1, c2⟩ := ih c hcn
        by_cases hc0 : 0 ≤ (roundsD n l f k).getD c 0
        · obtain ⟨d1, d2⟩ := c1 hc0
          rcases Nat.lt_or_ge ((roundsD n l f k).getD c 0).toNat k with h2 | h2
          · exact i2 k1 (((roundsD n l f k).getD c 0).toNat + 1) (by omega) ⟨c, d1.1, he⟩
          · exact k3 ⟨c, he, by omega⟩
        · exact c2 (by omega) k (Nat.le_refl _) hc
      · exact i2 k1 j h1 hw

theorem relax_same {r : Nat} {D : List Int} {a b : Nat} (hb : b < D.length) : relax r D a b = D ∨ cntD D + 1 ≤ cntD (relax r D a b) := by
  unfold relax
  split
  · rename_i h
    unfold relaxT at h
    have : D.getD b 0 < 0 := by
      cases hh : D.getD a 0 == (r : Int) <;> rw [hh] at h <;> simp at h
      simpa using h
    right
    rw [cnt_set hb this (by omega)]; omega
  · exact .inl rfl
theorem step_same2 {r : Nat} {D : List Int} {x : Lk} (h1 : x.1.toNat < D.length) (h2 : x.2.toNat < D.length) : stepD r D x = D ∨ cntD D + 1 ≤ cntD (stepD r D x) := by
  unfold stepD
  have k1 := relax_same (r := r) (a := x.1.toNat) h2
  have k2 := relax_same (r := r) (D := relax r D x.1.toNat x.2.toNat) (a := x.2.toNat) (b := x.1.toNat) (by rw [relax_len]; exact h1)
  rcases k1 with k1 | k1
  · rw [k1] at k2 ⊢; exact k2
  · rcases k2 with k2 | k2
    · rw [k2]; exact .inr k1
    · right; omega
theorem fold_same {r : Nat} {n : Nat} (l : List Lk) : ∀ D : List Int, D.length = n → (∀ x ∈ l, x.1.toNat < n ∧ x.2.toNat < n) → l.foldl (stepD r) D = D ∨ cntD D + 1 ≤ cntD (l.foldl (stepD r) D) := by
  induction l with
  | nil => intro D _ _; exact .inl rfl
  | cons x l ih =>
    intro D hD hx
    have h0 := hx x (List.mem_cons_self ..)
    have k1 := step_same2 (r := r) (D := D) (x := x) (by omega) (by omega)
    have k2 := ih (stepD r D x) (by rw [stepD_len, hD]) (fun y hy => hx y (List.mem_cons_of_mem _ hy))
    rw [List.foldl_cons]
    rcases k1 with k1 | k1
    · rw [k1] at k2 ⊢; exact k2
    · rcases k2 with k2 | k2
      · rw [k2]; exact .inr k1
      · right; omega
theorem stable_at {n : Nat} {l : List Lk} {f : Int} (hf : 0 ≤ f ∧ f < n) (hl : inN n l) : ∃ j, j < n ∧ roundD l (roundsD n l f j) j = roundsD n l f j := by
  have key : ∀ k, (∃ j, j < k ∧ roundD l (roundsD n l f j) j = roundsD n l f j) ∨ k + 1 ≤ cntD (roundsD n l f k) := fun k => by
    induction k with
    | zero => exact .inr (cnt_start hf)
    | succ k ih =>
      rcases ih with ⟨j, hj, h⟩ | h
      · exact .inl ⟨j, by omega, h⟩
      · rcases fold_same (r := k) l (roundsD n l f k) (roundsD_len n l f k) (fun x hx => inN_mem hl hx) with h2 | h2
        · exact .inl ⟨k, by omega, h2⟩
        · right
          rw [rounds_succ]
          show _ ≤ cntD (l.foldl (stepD k) (roundsD n l f k))
          omega
  rcases key n with h | h
  · exact h
  · have := @cnt_le n l f n; omega
/-- What a distance says. -/
theorem dist_least {n : Nat} {l : List Lk} {f : Int} (hf : 0 ≤ f ∧ f < n) (hl : inN n l) {v : Nat} (hv : v < n) (h : 0 ≤ (distT n l f).getD v 0) : LeastW l ((distT n l f).getD v 0).toNat f.toNat v := by
  rw [distT_in hf] at *
  exact ((dist_char hf hl n v hv).1 h).1
theorem dist_walk {n : Nat} {l : List Lk} {f : Int} (hf : 0 ≤ f ∧ f < n) (hl : inN n l) {v : Nat} (hv : v < n) {m : Nat} (h : WalkL l m f.toNat v) : 0 ≤ (distT n l f).getD v 0 := by
  rw [distT_in hf]
  obtain ⟨j, hj, hs⟩ := stable_at hf hl
  have e1 : roundsD n l f n = roundsD n l f j := by have := rounds_stay hl hs (n - j); rwa [show j + (n - j) = n by omega] at this
  have e2 : roundsD n l f (j + m) = roundsD n l f j := rounds_stay hl hs m
  rw [e1, ← e2]
  rcases Int.lt_or_le ((roundsD n l f (j + m)).getD v 0) 0 with hneg | hpos
  · exact absurd h ((dist_char hf hl (j + m) v hv).2 hneg m (by omega))
  · exact hpos
theorem dist_symm {n : Nat} {l : List Lk} (hl : inN n l) {a b : Nat} (ha : a < n) (hb : b < n) (h : 0 ≤ (distT n l a).getD b 0) : (distT n l b).getD a 0 = (distT n l a).getD b 0 := by
  have h1 := dist_least (f := (a : Int)) (by omega) hl hb h
  have h2 := dist_walk (f := (b : Int)) (by omega) hl ha h1.1.symm
  have h3 := dist_least (f := (b : Int)) (by omega) hl ha h2
  have := h1.symm.uniq h3
  omega
theorem dist_symm_iff {n : Nat} {l : List Lk} (hl : inN n l) {a b : Nat} (ha : a < n) (hb : b < n) : 0 ≤ (distT n l a).getD b 0 ↔ 0 ≤ (distT n l b).getD a 0 :=
  ⟨fun h => by rw [dist_symm hl ha hb h]; exact h, fun h => by rw [dist_symm hl hb ha h]; exact h⟩
end Go.Proofs.Ytphgcgggbbcjgaa
