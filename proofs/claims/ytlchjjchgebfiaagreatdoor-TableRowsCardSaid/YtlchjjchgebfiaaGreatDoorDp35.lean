/-
  Plain law of Go's stable sort: rows told by the places at which their elements stood; swaps, insertion, merging in place.
-/
import Derived.Test.YtlchjjchgebfiaaGreatDoorDp34

namespace Go.Dl.Stb
def upf (f : Nat → Nat) (i x : Nat) : Nat → Nat := fun k => if k = i then x else f k
theorem upf_eq (f : Nat → Nat) (i x : Nat) : upf f i x i = x := if_pos rfl
theorem upf_ne (f : Nat → Nat) {i k : Nat} (x : Nat) (h : k ≠ i) : upf f i x k = f k := if_neg h
def swf (f : Nat → Nat) (i j : Nat) : Nat → Nat := upf (upf f i (f j)) j (f i)
theorem swf_j (f : Nat → Nat) (i j : Nat) : swf f i j j = f i := upf_eq _ _ _
theorem swf_i (f : Nat → Nat) (i j : Nat) : swf f i j i = f j := by
  unfold swf
  by_cases h : i = j
  · subst h; rw [upf_eq]
  · rw [upf_ne _ _ h, upf_eq]
theorem swf_ne (f : Nat → Nat) {i j k : Nat} (h1 : k ≠ i) (h2 : k ≠ j) : swf f i j k = f k := by
  unfold swf
  rw [upf_ne _ _ h2, upf_ne _ _ h1]
structure Mix (a b : Nat) (f g : Nat → Nat) : Prop where
  out : ∀ i, i < a ∨ b ≤ i → g i = f i
  from_ : ∀ i, a ≤ i → i < b → ∃ j, a ≤ j ∧ j < b ∧ g i = f j
  to_ : ∀ j, a ≤ j → j < b → ∃ i, a ≤ i ∧ i < b ∧ g i = f j
theorem Mix.refl (a b : Nat) (f : Nat → Nat) : Mix a b f f := ⟨fun _ _ => rfl, fun i h1 h2 => ⟨i, h1, h2, rfl⟩, fun i h1 h2 => ⟨i, h1, h2, rfl⟩⟩
theorem Mix.trans {a b : Nat} {f g h : Nat → Nat} (p : Mix a b f g) (q : Mix a b g h) : Mix a b f h :=
  ⟨fun i hi => (q.out i hi).trans (p.out i hi), fun i h1 h2 => by
    obtain ⟨j, j1, j2, e⟩ := q.from_ i h1 h2
    obtain ⟨k, k1, k2, e2⟩ := p.from_ j j1 j2
    exact ⟨k, k1, k2, e.trans e2⟩, fun j h1 h2 => by
    obtain ⟨k, k1, k2, e2⟩ := p.to_ j h1 h2
    obtain ⟨i, i1, i2, e⟩ := q.to_ k k1 k2
    exact ⟨i, i1, i2, e.trans e2⟩⟩
theorem Mix.wide {a b c d : Nat} {f g : Nat → Nat} (p : Mix a b f g) (h1 : c ≤ a) (h2 : b ≤ d) : Mix c d f g :=
  ⟨fun i hi => p.out i (by omega), fun i h3 h4 => by
    rcases Nat.lt_or_ge i a with h | h
    · exact ⟨i, h3, h4, p.out i (.inl h)⟩
    rcases Nat.lt_or_ge i b with h5 | h5
    · obtain ⟨j, j1, j2, e⟩ := p.from_ i h h5
      exact ⟨j, by omega, by omega, e⟩
    · exact ⟨i, h3, h4, p.out i (.inr h5)⟩, fun i h3 h4 => by
    rcases Nat.lt_or_ge i a with h | h
    · exact ⟨i, h3, h4, p.out i (.inl h)⟩
    rcases Nat.lt_or_ge i b with h5 | h5
    · obtain ⟨j, j1, j2, e⟩ := p.to_ i h h5
      exact ⟨j, by omega, by omega, e⟩
    · exact ⟨i, h3, h4, p.out i (.inr h5)⟩⟩
theorem Mix.swap {a b i j : Nat} (f : Nat → Nat) (hi : a ≤ i ∧ i < b) (hj : a ≤ j ∧ j < b) : Mix a b f (swf f i j) :=
  ⟨fun k hk => swf_ne f (by omega) (by omega), fun k h1 h2 => by
    by_cases e1 : k = j
    · subst e1; exact ⟨i, hi.1, hi.2, swf_j f i k⟩
    by_cases e2 : k = i
    · subst e2; exact ⟨j, hj.1, hj.2, swf_i f k j⟩
    · exact ⟨k, h1, h2, swf_ne f e2 e1⟩, fun k h1 h2 => by
    by_cases e1 : k = j
    · subst e1; exact ⟨i, hi.1, hi.2, swf_i f i k⟩
    by_cases e2 : k = i
    · subst e2; exact ⟨j, hj.1, hj.2, swf_j f k j⟩
    · exact ⟨k, h1, h2, swf_ne f e2 e1⟩⟩
structure Weak (lt : Nat → Nat → Bool) : Prop where
  asym : ∀ p q, lt p q = true → lt q p = false
  neg : ∀ p q r, lt p q = false → lt q r = false → lt p r = false
def Bef (lt : Nat → Nat → Bool) (p q : Nat) : Prop := lt p q = true ∨ (lt q p = false ∧ p < q)
theorem Bef.irr {lt : Nat → Nat → Bool} (hw : Weak lt) {p : Nat} (h : Bef lt p p) : False := by
  rcases h with h | h
  · have := hw.asym p p h; rw [h] at this; cases this
  · omega
theorem Bef.trans {lt : Nat → Nat → Bool} (hw : Weak lt) {p q r : Nat} (h : Bef lt p q) (k : Bef lt q r) : Bef lt p r := by
  have hn : ∀ {x y : Nat}, Bef lt x y → lt y x = false := fun {x y} h => by
    rcases h with h | h
    · exact hw.asym _ _ h
    · exact h.1
  have h1 := hw.neg r q p (hn k) (hn h)
  cases e : lt p r with
  | true => exact .inl e
  | false =>
    rcases h with h | ⟨h, h2⟩
    · -- p < q strictly, p not < r: so q is not ≤ r: contradiction
      have := hw.neg p r q e (hn k)
      rw [h] at this; cases this
    rcases k with k | ⟨k, k2⟩
    · have := hw.neg q p r h e
      rw [k] at this; cases this
    · exact .inr ⟨h1, by omega⟩
theorem Bef.asym {lt : Nat → Nat → Bool} (hw : Weak lt) {p q : Nat} (h : Bef lt p q) (k : Bef lt q p) : False := Bef.irr hw (h.trans hw k)
theorem bef_of {lt : Nat → Nat → Bool} {p q : Nat} (ht : p < q) (h : lt q p = false) : Bef lt p q := .inr ⟨h, ht⟩
def Ord (lt : Nat → Nat → Bool) (f : Nat → Nat) (a b : Nat) : Prop := ∀ i j, a ≤ i → i < j → j < b → Bef lt (f i) (f j)
theorem Ord.sub {lt : Nat → Nat → Bool} {f : Nat → Nat} {a b c d : Nat} (h : Ord lt f a b) (h1 : a ≤ c) (h2 : d ≤ b) : Ord lt f c d := fun i j h3 h4 h5 => h i j (by omega) h4 (by omega)
theorem Ord.congr {lt : Nat → Nat → Bool} {f g : Nat → Nat} {a b : Nat} (h : Ord lt f a b) (e : ∀ i, a ≤ i → i < b → g i = f i) : Ord lt g a b := fun i j h1 h2 h3 => by
  rw [e i h1 (by omega), e j (by omega) h3]; exact h i j h1 h2 h3
theorem ord_unique {lt : Nat → Nat → Bool} (hw : Weak lt) {n : Nat} {f g h : Nat → Nat} (m1 : Mix 0 n h f) (m2 : Mix 0 n h g) (o1 : Ord lt f 0 n) (o2 : Ord lt g 0 n) : ∀ i, i < n → f i = g i := by
  intro i
  induction i using Nat.strongRecOn with
  | ind i ih =>
    intro hi
    -- f i stands somewhere in g
    obtain ⟨p, _, p2, e1⟩ := m1.from_ i (Nat.zero_le _) hi
    obtain ⟨j, _, j2, e2⟩ := m2.to_ p (Nat.zero_le _) p2
    obtain ⟨q, _, q2, e3⟩ := m2.from_ i (Nat.zero_le _) hi
    obtain ⟨k, _, k2, e4⟩ := m1.to_ q (Nat.zero_le _) q2
    have hfj : f i = g j := e1.trans e2.symm
    have hgk : g i = f k := e3.trans e4.symm
    rcases Nat.lt_trichotomy j i with hj | hj | hj
    · have := ih j hj (by omega)
      have h2 := o1 j i (Nat.zero_le _) hj hi
      rw [this, hfj] at h2
      exact (Bef.irr hw h2).elim
    · subst hj; exact hfj
    · rcases Nat.lt_trichotomy k i with hk | hk | hk
      · have := ih k hk (by omega)
        have h2 := o2 k i (Nat.zero_le _) hk hi
        rw [← this, hgk] at h2
        exact (Bef.irr hw h2).elim
      · subst hk; exact hgk.symm
      · have h1 := o2 i j (Nat.zero_le _) hj j2
        have h2 := o1 i k (Nat.zero_le _) hk k2
        rw [← hfj] at h1
        rw [← hgk] at h2
        exact (Bef.asym hw h1 h2).elim
def insIn (lt : Nat → Nat → Bool) (a : Nat) : Nat → (Nat → Nat) → Nat → Nat
  | 0, f => f
  | j + 1, f => if a < j + 1 ∧ lt (f (j + 1)) (f j) = true then insIn lt a j (swf f (j + 1) j) else f
def insOut (lt : Nat → Nat → Bool) (a : Nat) : Nat → Nat → (Nat → Nat) → Nat → Nat
  | 0, _, f => f
  | k + 1, i, f => insOut lt a k (i + 1) (insIn lt a i f)
def insF (lt : Nat → Nat → Bool) (a b : Nat) (f : Nat → Nat) : Nat → Nat := insOut lt a (b - (a + 1)) (a + 1) f
theorem insIn_ord {lt : Nat → Nat → Bool} (hw : Weak lt) {a c : Nat} : ∀ (j : Nat) (f : Nat → Nat), a ≤ j → j < c →
    (∀ x y, a ≤ x → x < y → y < c → x ≠ j → y ≠ j → Bef lt (f x) (f y)) → (∀ y, j < y → y < c → Bef lt (f j) (f y)) → (∀ x, a ≤ x → x < j → f x < f j) →
    Ord lt (insIn lt a j f) a c ∧ Mix a c f (insIn lt a j f)
  | 0, f, ha, hc, h1, h2, _ => by
    have e : insIn lt a 0 f = f := rfl
    rw [e]
    refine ⟨fun x y hx hxy hy => ?_, .refl ..⟩
    by_cases ex : x = 0
    · subst ex; exact h2 y hxy hy
    · exact h1 x y hx hxy hy ex (by omega)
  | j + 1, f, ha, hc, h1, h2, h3 => by
    unfold insIn
    split
    · rename_i hif
      obtain ⟨haj, hlt⟩ := hif
      have hb : Bef lt (f (j + 1)) (f j) := .inl hlt
      have key := insIn_ord hw (a := a) (c := c) j (swf f (j + 1) j) (by omega) (by omega) (fun x y hx hxy hy nx ny => by
          by_cases ey : y = j + 1
          · subst ey
            rw [swf_i, swf_ne f (by omega) nx]
            exact h1 x j hx (by omega) (by omega) (by omega) (by omega)
          · by_cases ex : x = j + 1
            · subst ex
              rw [swf_i, swf_ne f ey ny]
              exact h1 j y (by omega) (by omega) hy (by omega) ey
            · rw [swf_ne f ex nx, swf_ne f ey ny]
              exact h1 x y hx hxy hy ex ey)
        (fun y hy hyc => by
          rw [swf_j]
          by_cases ey : y = j + 1
          · subst ey; rw [swf_i]; exact hb
          · rw [swf_ne f ey (by omega)]; exact h2 y (by omega) hyc)
        (fun x hx hxj => by
          rw [swf_j, swf_ne f (by omega) (by omega)]
          exact h3 x hx (by omega))
      exact ⟨key.1, (Mix.swap f ⟨by omega, hc⟩ ⟨by omega, by omega⟩).trans key.2⟩
    · rename_i hif
      refine ⟨fun x y hx hxy hy => ?_, .refl ..⟩
      -- j's element behind the one ahead of it
      have hj : a < j + 1 → Bef lt (f j) (f (j + 1)) := fun haj => bef_of (h3 j (by omega) (by omega)) (by
        cases e : lt (f (j + 1)) (f j) with
        | false => rfl
        | true => exact absurd ⟨haj, e⟩ hif)
      by_cases ex : x = j + 1
      · subst ex; exact h2 y hxy hy
      by_cases ey : y = j + 1
      · subst ey
        by_cases exj : x = j
        · subst exj; exact hj (by omega)
        · exact (h1 x j hx (by omega) (by omega) ex (by omega)).trans hw (hj (by omega))
      · exact h1 x y hx hxy hy ex ey
theorem insOut_ord {lt : Nat → Nat → Bool} (hw : Weak lt) {a : Nat} : ∀ (k i : Nat) (f : Nat → Nat), a < i → Ord lt f a i → (∀ x y, a ≤ x → x < y → y < i + k → i ≤ y → f x < f y) →
    Ord lt (insOut lt a k i f) a (i + k) ∧ Mix a (i + k) f (insOut lt a k i f)
  | 0, _, f, _, ho, _ => ⟨ho, .refl ..⟩
  | k + 1, i, f, ha, ho, ht => by
    obtain ⟨o1, m1⟩ := insIn_ord hw (a := a) (c := i + 1) i f (by omega) (by omega) (fun x y hx hxy hy nx ny => ho x y hx hxy (by omega)) (fun y h1 h2 => by omega) (fun x hx hxi => ht x i hx hxi (by omega) (Nat.le_refl _))
    have := insOut_ord hw (a := a) k (i + 1) (insIn lt a i f) (by omega) o1 (fun x y hx hxy hy hiy => by
      have e2 : insIn lt a i f y = f y := m1.out y (.inr hiy)
      rw [e2]
      rcases Nat.lt_or_ge x (i + 1) with h | h
      · obtain ⟨z, z1, z2, e⟩ := m1.from_ x hx h
        rw [e]
        exact ht z y z1 (by omega) (by omega) (by omega)
      · rw [m1.out x (.inr h)]
        exact ht x y hx hxy (by omega) (by omega))
    rw [show i + (k + 1) = i + 1 + k by omega]
    exact ⟨this.1, (m1.wide (Nat.le_refl _) (by omega)).trans this.2⟩
theorem insF_ord {lt : Nat → Nat → Bool} (hw : Weak lt) {a b : Nat} (f : Nat → Nat) (ht : ∀ x y, a ≤ x → x < y → y < b → f x < f y) :
    Ord lt (insF lt a b f) a b ∧ Mix a b f (insF lt a b f) := by
  unfold insF
  rcases Nat.lt_or_ge b (a + 1) with h | h
  · rw [show b - (a + 1) = 0 by omega]
    exact ⟨fun i j h1 h2 h3 => by omega, .refl ..⟩
  · have := insOut_ord hw (a := a) (b - (a + 1)) (a + 1) f (by omega) (fun i j h1 h2 h3 => by omega) (fun x y hx hxy hy _ => ht x y hx hxy (by omega))
    rw [show a + 1 + (b - (a + 1)) = b by omega] at this
    exact this
def swR (a b : Nat) : Nat → (Nat → Nat) → Nat → Nat
  | 0, f => f
  | n + 1, f => swf (swR a b n f) (a + n) (b + n)
theorem swR_at {a b : Nat} (f : Nat → Nat) : ∀ (n : Nat), a + n ≤ b → ∀ k, swR a b n f k = if a ≤ k ∧ k < a + n then f (k - a + b) else if b ≤ k ∧ k < b + n then f (k - b + a) else f k
  | 0, _, k => by
    rw [if_neg (by omega), if_neg (by omega)]; rfl
  | n + 1, h, k => by
    have ih := swR_at (a := a) (b := b) f n (by omega)
    unfold swR
    by_cases e1 : k = b + n
    · subst e1
      rw [swf_j, ih (a + n), if_neg (by omega), if_neg (by omega), if_neg (by omega), if_pos (by omega), show b + n - b + a = a + n by omega]
    by_cases e2 : k = a + n
    · subst e2
      rw [swf_i, ih (b + n), if_neg (by omega), if_neg (by omega), if_pos (by omega), show a + n - a + b = b + n by omega]
    rw [swf_ne _ e2 e1, ih k]
    by_cases c1 : a ≤ k ∧ k < a + n
    · rw [if_pos c1, if_pos (by omega)]
    · rw [if_neg c1]
      by_cases c2 : b ≤ k ∧ k < b + n
      · rw [if_pos c2, if_neg (by omega), if_pos (by omega)]
      · rw [if_neg c2, if_neg (by omega), if_neg (by omega)]
def rotL (m : Nat) : Nat → Nat → Nat → (Nat → Nat) → Nat → Nat
  | 0, _, _, f => f
  | k + 1, i, j, f =>
    if i = j then swR (m - i) m i f
    else if j < i then rotL m k (i - j) j (swR (m - i) m j f)
    else rotL m k i (j - i) (swR (m - i) (m + j - i) i f)
def rotS (m i j : Nat) (f : Nat → Nat) : Nat → Nat := fun k => if m - i ≤ k ∧ k < m - i + j then f (k + i) else if m - i + j ≤ k ∧ k < m + j then f (k - j) else f k
theorem rotL_is {m : Nat} : ∀ (k i j : Nat) (f : Nat → Nat), i ≤ m → 0 < i → 0 < j → i + j ≤ k → rotL m k i j f = rotS m i j f
  | 0, i, j, f, _, h1, h2, h => by omega
  | k + 1, i, j, f, hm, h1, h2, h => by
    unfold rotL
    by_cases e : i = j
    · subst e
      rw [if_pos rfl]
      funext x
      rw [swR_at f i (by omega)]
      unfold rotS
      by_cases c1 : m - i ≤ x ∧ x < m - i + i
      · rw [if_pos c1, if_pos c1, show x - (m - i) + m = x + i by omega]
      · rw [if_neg c1, if_neg c1]
        by_cases c2 : m ≤ x ∧ x < m + i
        · rw [if_pos c2, if_pos (by omega), show x - m + (m - i) = x - i by omega]
        · rw [if_neg c2, if_neg (by omega)]
    rw [if_neg e]
    by_cases e2 : j < i
    · rw [if_pos e2, rotL_is k (i - j) j _ (by omega) (by omega) h2 (by omega)]
      funext x
      unfold rotS
      simp only [swR_at f j (show m - i + j ≤ m by omega)]
      by_cases c0 : m - i ≤ x ∧ x < m - i + j
      · rw [if_neg (by omega), if_neg (by omega), if_pos c0, if_pos c0, show x - (m - i) + m = x + i by omega]
      rw [if_neg c0, if_neg c0]
      by_cases c1 : m - (i - j) ≤ x ∧ x < m - (i - j) + j
      · rw [if_pos c1]
        by_cases c3 : m ≤ x + (i - j) ∧ x + (i - j) < m + j
        · rw [if_neg (by omega), if_pos c3, if_pos (by omega), show x + (i - j) - m + (m - i) = x - j by omega]
        · omega
      · rw [if_neg c1]
        by_cases c4 : m - (i - j) + j ≤ x ∧ x < m + j
        · rw [if_pos c4, if_neg (by omega), if_neg (by omega), if_pos (by omega)]
        · rw [if_neg c4, if_neg (by omega), if_neg (by omega)]
    · rw [if_neg e2, rotL_is k i (j - i) _ hm h1 (by omega) (by omega)]
      funext x
      unfold rotS
      simp only [swR_at f i (show m - i + i ≤ m + j - i by omega)]
      by_cases c0 : m - i ≤ x ∧ x < m - i + (j - i)
      · rw [if_pos c0, if_neg (by omega), if_neg (by omega), if_pos (by omega)]
      rw [if_neg c0]
      by_cases c1 : m - i + (j - i) ≤ x ∧ x < m + (j - i)
      · rw [if_pos c1, if_pos (by omega), if_pos (by omega), show x - (j - i) - (m - i) + (m + j - i) = x + i by omega]
      · rw [if_neg c1]
        by_cases c4 : m + j - i ≤ x ∧ x < m + j - i + i
        · rw [if_neg (by omega), if_pos c4, if_neg (by omega), if_pos (by omega), show x - (m + j - i) + (m - i) = x - j by omega]
        · rw [if_neg (by omega), if_neg c4, if_neg (by omega), if_neg (by omega)]
end Go.Dl.Stb


