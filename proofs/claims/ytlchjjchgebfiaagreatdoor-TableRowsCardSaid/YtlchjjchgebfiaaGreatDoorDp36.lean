/-
  Plain law of Go's stable sort: merging in place; the whole.
-/
import Derived.Test.YtlchjjchgebfiaaGreatDoorDp35

namespace Go.Dl.Stb
def bis (P : Nat → Bool) : Nat → Nat → Nat → Nat
  | 0, i, _ => i
  | k + 1, i, j => if i < j then (if P ((i + j) / 2) = true then bis P k ((i + j) / 2 + 1) j else bis P k i ((i + j) / 2)) else i
theorem bis_is {P : Nat → Bool} : ∀ (k i j : Nat), j - i ≤ k → i ≤ j → (∀ x y, i ≤ x → x < y → y < j → P y = true → P x = true) →
    i ≤ bis P k i j ∧ bis P k i j ≤ j ∧ (∀ x, i ≤ x → x < bis P k i j → P x = true) ∧ ∀ x, bis P k i j ≤ x → x < j → P x = false
  | 0, i, j, hk, hij, _ => by
    have e : bis P 0 i j = i := rfl
    rw [e]
    exact ⟨Nat.le_refl _, hij, fun x h1 h2 => by omega, fun x h1 h2 => by omega⟩
  | k + 1, i, j, hk, hij, hm => by
    unfold bis
    split
    · rename_i hlt
      split
      · rename_i hp
        obtain ⟨h1, h2, h3, h4⟩ := bis_is k ((i + j) / 2 + 1) j (by omega) (by omega) (fun x y hx hxy hy => hm x y (by omega) hxy hy)
        refine ⟨by omega, h2, fun x hx hxb => ?_, h4⟩
        rcases Nat.lt_or_ge x ((i + j) / 2 + 1) with h | h
        · rcases Nat.lt_or_ge x ((i + j) / 2) with h5 | h5
          · exact hm x _ hx h5 (by omega) hp
          · rw [show x = (i + j) / 2 by omega]; exact hp
        · exact h3 x h hxb
      · rename_i hp
        obtain ⟨h1, h2, h3, h4⟩ := bis_is k i ((i + j) / 2) (by omega) (by omega) (fun x y hx hxy hy => hm x y hx hxy (by omega))
        refine ⟨h1, by omega, h3, fun x hx hxj => ?_⟩
        rcases Nat.lt_or_ge x ((i + j) / 2) with h | h
        · exact h4 x hx h
        · cases e : P x with
          | false => rfl
          | true =>
            rcases Nat.lt_or_ge ((i + j) / 2) x with h5 | h5
            · exact absurd (hm _ x (by omega) h5 hxj e) hp
            · rw [show x = (i + j) / 2 by omega] at e; exact absurd e hp
    · exact ⟨Nat.le_refl _, hij, fun x h1 h2 => by omega, fun x h1 h2 => by omega⟩
def bubU : Nat → Nat → (Nat → Nat) → Nat → Nat
  | 0, _, f => f
  | c + 1, k, f => bubU c (k + 1) (swf f k (k + 1))
def bubD : Nat → Nat → (Nat → Nat) → Nat → Nat
  | 0, _, f => f
  | c + 1, k, f => bubD c (k - 1) (swf f k (k - 1))
theorem bubU_at : ∀ (c k : Nat) (f : Nat → Nat) (x : Nat), bubU c k f x = if k ≤ x ∧ x < k + c then f (x + 1) else if x = k + c then f k else f x
  | 0, k, f, x => by
    rw [if_neg (by omega)]
    by_cases e : x = k + 0
    · rw [if_pos e, e]; rfl
    · rw [if_neg e]; rfl
  | c + 1, k, f, x => by
    unfold bubU
    rw [bubU_at c (k + 1)]
    by_cases h1 : k + 1 ≤ x ∧ x < k + 1 + c
    · rw [if_pos h1, if_pos (by omega), swf_ne f (by omega) (by omega)]
    rw [if_neg h1]
    by_cases h2 : x = k + 1 + c
    · rw [if_pos h2, if_neg (by omega), if_pos (by omega), swf_j]
    rw [if_neg h2]
    by_cases h3 : x = k
    · subst h3
      rw [swf_i, if_pos (by omega)]
    · rw [if_neg (by omega), if_neg (by omega)]
      exact swf_ne f h3 (by omega)
theorem bubD_at : ∀ (c k : Nat) (f : Nat → Nat) (x : Nat), c ≤ k → bubD c k f x = if x + c = k then f k else if k < x + c ∧ x ≤ k then f (x - 1) else f x
  | 0, k, f, x, _ => by
    by_cases e : x + 0 = k
    · rw [if_pos e, ← e]; rfl
    · rw [if_neg e, if_neg (by omega)]; rfl
  | c + 1, k, f, x, h => by
    unfold bubD
    rw [bubD_at c (k - 1) _ x (by omega)]
    by_cases h1 : x + c = k - 1
    · rw [if_pos h1, if_pos (by omega), swf_j]
    rw [if_neg h1]
    by_cases h2 : k - 1 < x + c ∧ x ≤ k - 1
    · rw [if_pos h2, if_neg (by omega), if_pos (by omega), swf_ne f (by omega) (by omega)]
    rw [if_neg h2]
    by_cases h3 : x = k
    · subst h3
      rw [swf_i, if_neg (by omega), if_pos (by omega)]
    · rw [if_neg (by omega), if_neg (by omega)]
      exact swf_ne f h3 (by omega)
def stS (lt : Nat → Nat → Bool) (a m b : Nat) (f : Nat → Nat) : Nat :=
  bis (fun c => !lt (f ((a + b) / 2 + m - 1 - c)) (f c)) ((if (a + b) / 2 < m then (a + b) / 2 else m) - (if (a + b) / 2 < m then (a + b) / 2 + m - b else a)) (if (a + b) / 2 < m then (a + b) / 2 + m - b else a) (if (a + b) / 2 < m then (a + b) / 2 else m)
def symR (lt : Nat → Nat → Bool) (a m b : Nat) (f : Nat → Nat) : Nat → Nat :=
  if stS lt a m b f < m ∧ m < (a + b) / 2 + m - stS lt a m b f then rotL m ((a + b) / 2 + m - stS lt a m b f - stS lt a m b f) (m - stS lt a m b f) ((a + b) / 2 + m - stS lt a m b f - m) f else f
def symF (lt : Nat → Nat → Bool) : Nat → Nat → Nat → Nat → (Nat → Nat) → Nat → Nat
  | 0, _, _, _, f => f
  | k + 1, a, m, b, f =>
    if m - a = 1 then bubU (bis (fun h => lt (f h) (f a)) (b - m) m b - 1 - a) a f
    else if b - m = 1 then bubD (m - bis (fun h => !lt (f m) (f h)) (m - a) a m) m f
    else
      let f2 := if a < stS lt a m b f ∧ stS lt a m b f < (a + b) / 2 then symF lt k a (stS lt a m b f) ((a + b) / 2) (symR lt a m b f) else symR lt a m b f
      if (a + b) / 2 < (a + b) / 2 + m - stS lt a m b f ∧ (a + b) / 2 + m - stS lt a m b f < b then symF lt k ((a + b) / 2) ((a + b) / 2 + m - stS lt a m b f) b f2 else f2
theorem bef_r {lt : Nat → Nat → Bool} {p q : Nat} (ht : p < q) : Bef lt q p ↔ lt q p = true :=
  ⟨fun h => by rcases h with h | h; exact h; omega, fun h => .inl h⟩
theorem bef_l {lt : Nat → Nat → Bool} (hw : Weak lt) {p q : Nat} (ht : p < q) : Bef lt p q ↔ lt q p = false :=
  ⟨fun h => by rcases h with h | h; exact hw.asym _ _ h; exact h.1, fun h => .inr ⟨h, ht⟩⟩
theorem sym_one {lt : Nat → Nat → Bool} (hw : Weak lt) {a m b : Nat} {f : Nat → Nat} (ham : a < m) (hmb : m < b) (o2 : Ord lt f m b) (ht : ∀ x y, a ≤ x → x < m → m ≤ y → y < b → f x < f y) (h1 : m - a = 1) : Ord lt (bubU (bis (fun h => lt (f h) (f a)) (b - m) m b - 1 - a) a f) a b ∧ Mix a b f (bubU (bis (fun h => lt (f h) (f a)) (b - m) m b - 1 - a) a f) := by
  obtain ⟨r1, r2, r3, r4⟩ := bis_is (P := fun h => lt (f h) (f a)) (b - m) m b (Nat.le_refl _) (by omega) (fun x y hx hxy hy hp => by
    have ha := ht a y (Nat.le_refl _) ham (by omega) hy
    have ha2 := ht a x (Nat.le_refl _) ham hx (by omega)
    exact (bef_r ha2).1 ((o2 x y hx hxy hy).trans hw ((bef_r ha).2 hp)))
  generalize bis (fun h => lt (f h) (f a)) (b - m) m b = r at r1 r2 r3 r4
  have hat := bubU_at (r - 1 - a) a f
  have hlo : ∀ x, a ≤ x → x < r - 1 → bubU (r - 1 - a) a f x = f (x + 1) := fun x h2 h3 => by rw [hat, if_pos (by omega)]
  have hmi : bubU (r - 1 - a) a f (r - 1) = f a := by rw [hat, if_neg (by omega), if_pos (by omega)]
  have hhi : ∀ x, x < a ∨ r ≤ x → bubU (r - 1 - a) a f x = f x := fun x h2 => by rw [hat, if_neg (by omega), if_neg (by omega)]
  generalize bubU (r - 1 - a) a f = g at hlo hmi hhi
  have hin : ∀ x, m ≤ x → x < r → Bef lt (f x) (f a) := fun x hx hxr => (bef_r (ht a x (Nat.le_refl _) ham hx (by omega))).2 (r3 x hx hxr)
  have hbe : ∀ x, r ≤ x → x < b → Bef lt (f a) (f x) := fun x hx hxb => (bef_l hw (ht a x (Nat.le_refl _) ham (by omega) hxb)).2 (r4 x hx hxb)
  refine ⟨fun x y hx hxy hy => ?_, ⟨fun x hx => hhi x (by omega), fun x hx hxb => ?_, fun y hy hyb => ?_⟩⟩
  · rcases Nat.lt_or_ge y (r - 1) with h | h
    · rw [hlo x hx (by omega), hlo y (by omega) h]; exact o2 _ _ (by omega) (by omega) (by omega)
    rcases Nat.lt_or_ge (r - 1) y with h2 | h2
    · rw [hhi y (.inr (by omega))]
      rcases Nat.lt_or_ge x (r - 1) with h3 | h3
      · rw [hlo x hx h3]; exact o2 _ _ (by omega) (by omega) hy
      rcases Nat.lt_or_ge (r - 1) x with h4 | h4
      · rw [hhi x (.inr (by omega))]; exact o2 _ _ (by omega) hxy hy
      · rw [show x = r - 1 by omega, hmi]; exact hbe y (by omega) hy
    · rw [show y = r - 1 by omega, hmi, hlo x hx (by omega)]
      exact hin _ (by omega) (by omega)
  · rcases Nat.lt_or_ge x (r - 1) with h | h
    · exact ⟨x + 1, by omega, by omega, hlo x hx h⟩
    rcases Nat.lt_or_ge (r - 1) x with h2 | h2
    · exact ⟨x, hx, hxb, hhi x (.inr (by omega))⟩
    · exact ⟨a, Nat.le_refl _, by omega, by rw [show x = r - 1 by omega, hmi]⟩
  · rcases Nat.lt_or_ge a y with h | h
    · rcases Nat.lt_or_ge y r with h2 | h2
      · exact ⟨y - 1, by omega, by omega, by rw [hlo (y - 1) (by omega) (by omega), show y - 1 + 1 = y by omega]⟩
      · exact ⟨y, hy, hyb, hhi y (.inr h2)⟩
    · exact ⟨r - 1, by omega, by omega, by rw [hmi, show y = a by omega]⟩
theorem sym_two {lt : Nat → Nat → Bool} (hw : Weak lt) {a m b : Nat} {f : Nat → Nat} (ham : a < m) (hmb : m < b) (o1 : Ord lt f a m) (ht : ∀ x y, a ≤ x → x < m → m ≤ y → y < b → f x < f y) (h1 : b - m = 1) : Ord lt (bubD (m - bis (fun h => !lt (f m) (f h)) (m - a) a m) m f) a b ∧ Mix a b f (bubD (m - bis (fun h => !lt (f m) (f h)) (m - a) a m) m f) := by
  obtain ⟨r1, r2, r3, r4⟩ := bis_is (P := fun h => !lt (f m) (f h)) (m - a) a m (Nat.le_refl _) (by omega) (fun x y hx hxy hy hp => by
    have ha := ht y m (by omega) hy (Nat.le_refl _) (by omega)
    have ha2 := ht x m hx (by omega) (Nat.le_refl _) (by omega)
    have h := (o1 x y hx hxy hy).trans hw ((bef_l hw ha).2 (by simpa using hp))
    simpa using (bef_l hw ha2).1 h)
  generalize bis (fun h => !lt (f m) (f h)) (m - a) a m = r at r1 r2 r3 r4
  have hat := fun x => bubD_at (m - r) m f x (by omega)
  have hlo : ∀ x, x < r ∨ m < x → bubD (m - r) m f x = f x := fun x h2 => by rw [hat, if_neg (by omega), if_neg (by omega)]
  have hmi : bubD (m - r) m f r = f m := by rw [hat, if_pos (by omega)]
  have hhi : ∀ x, r < x → x ≤ m → bubD (m - r) m f x = f (x - 1) := fun x h2 h3 => by rw [hat, if_neg (by omega), if_pos (by omega)]
  generalize bubD (m - r) m f = g at hlo hmi hhi
  have hin : ∀ x, a ≤ x → x < r → Bef lt (f x) (f m) := fun x hx hxr => (bef_l hw (ht x m hx (by omega) (Nat.le_refl _) hmb)).2 (by simpa using r3 x hx hxr)
  have hbe : ∀ x, r ≤ x → x < m → Bef lt (f m) (f x) := fun x hx hxb => (bef_r (ht x m (by omega) hxb (Nat.le_refl _) hmb)).2 (by simpa using r4 x hx hxb)
  refine ⟨fun x y hx hxy hy => ?_, ⟨fun x hx => hlo x (by omega), fun x hx hxb => ?_, fun y hy hyb => ?_⟩⟩
  · rcases Nat.lt_or_ge y r with h | h
    · rw [hlo x (.inl (by omega)), hlo y (.inl h)]; exact o1 _ _ hx hxy (by omega)
    rcases Nat.lt_or_ge r y with h2 | h2
    · rw [hhi y h2 (by omega)]
      rcases Nat.lt_or_ge x r with h3 | h3
      · rw [hlo x (.inl h3)]; exact o1 _ _ hx (by omega) (by omega)
      rcases Nat.lt_or_ge r x with h4 | h4
      · rw [hhi x h4 (by omega)]; exact o1 _ _ (by omega) (by omega) (by omega)
      · rw [show x = r by omega, hmi]; exact hbe _ (by omega) (by omega)
    · rw [show y = r by omega, hmi, hlo x (.inl (by omega))]
      exact hin _ hx (by omega)
  · rcases Nat.lt_or_ge x r with h | h
    · exact ⟨x, hx, hxb, hlo x (.inl h)⟩
    rcases Nat.lt_or_ge r x with h2 | h2
    · exact ⟨x - 1, by omega, by omega, hhi x h2 (by omega)⟩
    · exact ⟨m, by omega, hmb, by rw [show x = r by omega, hmi]⟩
  · rcases Nat.lt_or_ge y r with h | h
    · exact ⟨y, hy, hyb, hlo y (.inl h)⟩
    rcases Nat.lt_or_ge y m with h2 | h2
    · exact ⟨y + 1, by omega, by omega, by rw [hhi (y + 1) (by omega) (by omega), show y + 1 - 1 = y by omega]⟩
    · exact ⟨r, by omega, by omega, by rw [hmi, show y = m by omega]⟩
structure Cut (lt : Nat → Nat → Bool) (a m b : Nat) (f : Nat → Nat) (s e d : Nat) (f1 : Nat → Nat) : Prop where
  s1 : a ≤ s
  s2 : s ≤ d
  s3 : s ≤ m
  e1 : m ≤ e
  e2 : e ≤ b
  e3 : d ≤ e
  sum : s + e = d + m
  p1 : ∀ x, x < s ∨ e ≤ x → f1 x = f x
  p2 : ∀ x, s ≤ x → x < d → f1 x = f (x + (m - s))
  p3 : ∀ x, d ≤ x → x < e → f1 x = f (x - (e - m))
  c1 : ∀ x y, a ≤ x → x < s → e ≤ y → y < b → Bef lt (f x) (f y)
  c2 : ∀ x y, s ≤ x → x < m → m ≤ y → y < e → Bef lt (f y) (f x)
theorem sym_cut {lt : Nat → Nat → Bool} (hw : Weak lt) {a m b : Nat} {f : Nat → Nat} (ham : a < m) (hmb : m < b) (o1 : Ord lt f a m) (o2 : Ord lt f m b) (ht : ∀ x y, a ≤ x → x < m → m ≤ y → y < b → f x < f y) : Cut lt a m b f (stS lt a m b f) ((a + b) / 2 + m - stS lt a m b f) ((a + b) / 2) (symR lt a m b f) := by
  have hd1 : a < (a + b) / 2 := by omega
  have hd2 : (a + b) / 2 < b := by omega
  have hmono : ∀ x y, (if (a + b) / 2 < m then (a + b) / 2 + m - b else a) ≤ x → x < y → y < (if (a + b) / 2 < m then (a + b) / 2 else m) → (!lt (f ((a + b) / 2 + m - 1 - y)) (f y)) = true → (!lt (f ((a + b) / 2 + m - 1 - x)) (f x)) = true := fun x y hx hxy hy hp => by
    have hb : a ≤ x ∧ y < m ∧ m ≤ (a + b) / 2 + m - 1 - y ∧ (a + b) / 2 + m - 1 - x < b := by
      split at hx <;> split at hy <;> omega
    have t1 := ht y ((a + b) / 2 + m - 1 - y) (by omega) hb.2.1 hb.2.2.1 (by omega)
    have t2 := ht x ((a + b) / 2 + m - 1 - x) hb.1 (by omega) (by omega) hb.2.2.2
    have k1 := (bef_l hw t1).2 (by simpa using hp)
    have k2 := ((o1 x y hb.1 hxy hb.2.1).trans hw k1).trans hw (o2 ((a + b) / 2 + m - 1 - y) ((a + b) / 2 + m - 1 - x) hb.2.2.1 (by omega) hb.2.2.2)
    simpa using (bef_l hw t2).1 k2
  have hs := bis_is (P := fun c => !lt (f ((a + b) / 2 + m - 1 - c)) (f c)) ((if (a + b) / 2 < m then (a + b) / 2 else m) - (if (a + b) / 2 < m then (a + b) / 2 + m - b else a)) (if (a + b) / 2 < m then (a + b) / 2 + m - b else a) (if (a + b) / 2 < m then (a + b) / 2 else m) (Nat.le_refl _) (by split <;> omega) hmono
  unfold symR
  have hS : bis (fun c => !lt (f ((a + b) / 2 + m - 1 - c)) (f c)) ((if (a + b) / 2 < m then (a + b) / 2 else m) - (if (a + b) / 2 < m then (a + b) / 2 + m - b else a)) (if (a + b) / 2 < m then (a + b) / 2 + m - b else a) (if (a + b) / 2 < m then (a + b) / 2 else m) = stS lt a m b f := rfl
  rw [hS] at hs
  generalize stS lt a m b f = s at hs
  generalize hd : (a + b) / 2 = d at hs hd1 hd2
  obtain ⟨q1, q2, q3, q4⟩ := hs
  have b1 : a ≤ s ∧ s ≤ d ∧ s ≤ m ∧ d + m ≤ s + b ∧ s ≤ d + m := by split at q1 <;> split at q2 <;> omega
  have hf1 : (if s < m ∧ m < d + m - s then rotL m (d + m - s - s) (m - s) (d + m - s - m) f else f) = rotS m (m - s) (d + m - s - m) f := by
    by_cases h : s < m ∧ m < d + m - s
    · rw [if_pos h, rotL_is _ _ _ _ (by omega) (by omega) (by omega) (by omega)]
    · rw [if_neg h]
      funext x
      unfold rotS
      by_cases g1 : m - (m - s) ≤ x ∧ x < m - (m - s) + (d + m - s - m)
      · rw [if_pos g1]; congr 1; omega
      · rw [if_neg g1]
        by_cases g2 : m - (m - s) + (d + m - s - m) ≤ x ∧ x < m + (d + m - s - m)
        · rw [if_pos g2]; congr 1; omega
        · rw [if_neg g2]
  rw [hf1]
  refine ⟨b1.1, b1.2.1, b1.2.2.1, by omega, by omega, by omega, by omega, fun x hx => ?_, fun x h1 h2 => ?_, fun x h1 h2 => ?_, fun x y h1 h2 h3 h4 => ?_, fun x y h1 h2 h3 h4 => ?_⟩
  · unfold rotS; rw [if_neg (by omega), if_neg (by omega)]
  · unfold rotS; rw [if_pos (by omega)]
  · unfold rotS; rw [if_neg (by omega), if_pos (by omega)]
  · -- left of the cut, right of it
    have hlo : (if d < m then d + m - b else a) ≤ s - 1 := by split <;> omega
    have hp := q3 (s - 1) hlo (by omega)
    have t := ht (s - 1) (d + m - 1 - (s - 1)) (by omega) (by omega) (by omega) (by omega)
    have k := (bef_l hw t).2 (by simpa using hp)
    rw [show d + m - 1 - (s - 1) = d + m - s by omega] at k
    have k1 : Bef lt (f x) (f (d + m - s)) := by
      rcases Nat.lt_or_ge x (s - 1) with h | h
      · exact (o1 x (s - 1) h1 h (by omega)).trans hw k
      · rw [show x = s - 1 by omega]; exact k
    rcases Nat.lt_or_ge (d + m - s) y with h | h
    · exact k1.trans hw (o2 _ y (by omega) h h4)
    · rw [show y = d + m - s by omega]; exact k1
  · have hhi : s < (if d < m then d else m) := by split <;> omega
    have hp := q4 s (Nat.le_refl _) hhi
    have t := ht s (d + m - 1 - s) (by omega) (by omega) (by omega) (by omega)
    have k := (bef_r t).2 (by simpa using hp)
    have k1 : Bef lt (f y) (f s) := by
      rcases Nat.lt_or_ge y (d + m - 1 - s) with h | h
      · exact (o2 y _ h3 h (by omega)).trans hw k
      · rw [show y = d + m - 1 - s by omega]; exact k
    rcases Nat.lt_or_ge s x with h | h
    · exact k1.trans hw (o1 s x (by omega) h h2)
    · rw [show x = s by omega]; exact k1
theorem sym_ord {lt : Nat → Nat → Bool} (hw : Weak lt) : ∀ (k a m b : Nat) (f : Nat → Nat), a < m → m < b → b - a ≤ k → Ord lt f a m → Ord lt f m b → (∀ x y, a ≤ x → x < m → m ≤ y → y < b → f x < f y) →
    Ord lt (symF lt k a m b f) a b ∧ Mix a b f (symF lt k a m b f)
  | 0, a, m, b, f, ham, hmb, hk, _, _, _ => by omega
  | k + 1, a, m, b, f, ham, hmb, hk, o1, o2, ht => by
    unfold symF
    split
    · rename_i h1; exact sym_one hw ham hmb o2 ht h1
    split
    · rename_i h1; exact sym_two hw ham hmb o1 ht h1
    have hc := sym_cut hw ham hmb o1 o2 ht
    have hd1 : a < (a + b) / 2 := by omega
    have hd2 : (a + b) / 2 < b := by omega
    have hk2 : (a + b) / 2 - a ≤ k ∧ b - (a + b) / 2 ≤ k := by omega
    generalize hF : symR lt a m b f = f1 at hc
    generalize stS lt a m b f = s at hc
    generalize (a + b) / 2 + m - s = e at hc
    generalize (a + b) / 2 = d at hc hd1 hd2 hk2
    -- the four parts
    have w1 : Ord lt f1 a s := (o1.sub (Nat.le_refl _) hc.s3).congr fun i _ h => hc.p1 i (.inl h)
    have w2 : Ord lt f1 s d := fun x y h1 h2 h3 => by
      rw [hc.p2 x h1 (by omega), hc.p2 y (by omega) h3]
      exact o2 _ _ (by have := hc.s3; omega) (by omega) (by have := hc.sum; have := hc.e2; have := hc.s3; omega)
    have w3 : Ord lt f1 d e := fun x y h1 h2 h3 => by
      rw [hc.p3 x h1 (by omega), hc.p3 y (by omega) h3]
      exact o1 _ _ (by have := hc.sum; have := hc.e1; have := hc.s1; omega) (by have := hc.sum; have := hc.e1; omega) (by have := hc.e1; omega)
    have w4 : Ord lt f1 e b := (o2.sub hc.e1 (Nat.le_refl _)).congr fun i h _ => hc.p1 i (.inr h)
    have t1 : ∀ x y, a ≤ x → x < s → s ≤ y → y < d → f1 x < f1 y := fun x y h1 h2 h3 h4 => by
      rw [hc.p1 x (.inl h2), hc.p2 y h3 h4]
      exact ht _ _ h1 (by have := hc.s3; omega) (by have := hc.s3; omega) (by have := hc.sum; have := hc.e2; have := hc.s3; omega)
    have t2 : ∀ x y, d ≤ x → x < e → e ≤ y → y < b → f1 x < f1 y := fun x y h1 h2 h3 h4 => by
      rw [hc.p1 y (.inr h3), hc.p3 x h1 h2]
      exact ht _ _ (by have := hc.sum; have := hc.e1; have := hc.s1; omega) (by have := hc.e1; omega) (by have := hc.e1; omega) h4
    have cross : ∀ x y, a ≤ x → x < d → d ≤ y → y < b → Bef lt (f1 x) (f1 y) := fun x y h1 h2 h3 h4 => by
      have q1 := hc.s1; have q2 := hc.s2; have q3 := hc.s3; have q4 := hc.e1; have q5 := hc.e2; have q6 := hc.e3; have q7 := hc.sum
      rcases Nat.lt_or_ge x s with h5 | h5
      · rw [hc.p1 x (.inl h5)]
        rcases Nat.lt_or_ge y e with h6 | h6
        · rw [hc.p3 y h3 h6]; exact o1 _ _ h1 (by omega) (by omega)
        · rw [hc.p1 y (.inr h6)]; exact hc.c1 x y h1 h5 h6 h4
      · rw [hc.p2 x h5 h2]
        rcases Nat.lt_or_ge y e with h6 | h6
        · rw [hc.p3 y h3 h6]; exact hc.c2 _ _ (by omega) (by omega) (by omega) (by omega)
        · rw [hc.p1 y (.inr h6)]; exact o2 _ _ (by omega) (by omega) h4
    have m1 : Mix a b f f1 := by
      have q1 := hc.s1; have q2 := hc.s2; have q3 := hc.s3; have q4 := hc.e1; have q5 := hc.e2; have q6 := hc.e3; have q7 := hc.sum
      refine ⟨fun i hi => hc.p1 i (by omega), fun i h1 h2 => ?_, fun j h1 h2 => ?_⟩
      · rcases Nat.lt_or_ge i s with h3 | h3
        · exact ⟨i, h1, h2, hc.p1 i (.inl h3)⟩
        rcases Nat.lt_or_ge i d with h4 | h4
        · exact ⟨_, by omega, by omega, hc.p2 i h3 h4⟩
        rcases Nat.lt_or_ge i e with h5 | h5
        · exact ⟨_, by omega, by omega, hc.p3 i h4 h5⟩
        · exact ⟨i, h1, h2, hc.p1 i (.inr h5)⟩
      · rcases Nat.lt_or_ge j s with h3 | h3
        · exact ⟨j, h1, h2, hc.p1 j (.inl h3)⟩
        rcases Nat.lt_or_ge j m with h4 | h4
        · exact ⟨j + (e - m), by omega, by omega, by rw [hc.p3 _ (by omega) (by omega)]; congr 1; omega⟩
        rcases Nat.lt_or_ge j e with h5 | h5
        · exact ⟨j - (m - s), by omega, by omega, by rw [hc.p2 _ (by omega) (by omega)]; congr 1; omega⟩
        · exact ⟨j, h1, h2, hc.p1 j (.inr h5)⟩
    -- the left part
    have left : Ord lt (if a < s ∧ s < d then symF lt k a s d f1 else f1) a d ∧ Mix a d f1 (if a < s ∧ s < d then symF lt k a s d f1 else f1) := by
      split
      · rename_i h
        exact sym_ord hw k a s d f1 h.1 h.2 hk2.1 w1 w2 t1
      · rename_i h
        refine ⟨?_, .refl ..⟩
        have q1 := hc.s1; have q2 := hc.s2
        rcases Nat.lt_or_ge a s with h1 | h1
        · rw [show d = s by omega]; exact w1
        · rw [show a = s by omega]; exact w2
    generalize (if a < s ∧ s < d then symF lt k a s d f1 else f1) = f2 at left
    obtain ⟨l1, l2⟩ := left
    have e2 : ∀ i, d ≤ i → f2 i = f1 i := fun i hi => l2.out i (.inr hi)
    have right : Ord lt (if d < e ∧ e < b then symF lt k d e b f2 else f2) d b ∧ Mix d b f2 (if d < e ∧ e < b then symF lt k d e b f2 else f2) := by
      split
      · rename_i h
        refine sym_ord hw k d e b f2 h.1 h.2 hk2.2 (w3.congr fun i h1 _ => e2 i h1) (w4.congr fun i h1 _ => e2 i (by omega)) fun x y h1 h2 h3 h4 => ?_
        rw [e2 x h1, e2 y (by omega)]; exact t2 x y h1 h2 h3 h4
      · rename_i h
        refine ⟨?_, .refl ..⟩
        have q1 := hc.e2; have q2 := hc.e3
        rcases Nat.lt_or_ge d e with h1 | h1
        · rw [show b = e by omega]; exact w3.congr fun i h3 _ => e2 i h3
        · rw [show d = e by omega]; exact w4.congr fun i h3 _ => e2 i (by omega)
    generalize (if d < e ∧ e < b then symF lt k d e b f2 else f2) = f3 at right
    obtain ⟨r1, r2⟩ := right
    refine ⟨fun x y h1 h2 h3 => ?_, m1.trans ((l2.wide (Nat.le_refl _) (by omega)).trans (r2.wide (by omega) (Nat.le_refl _)))⟩
    rcases Nat.lt_or_ge y d with h4 | h4
    · rw [r2.out x (.inl (by omega)), r2.out y (.inl h4)]; exact l1 x y h1 h2 h4
    rcases Nat.lt_or_ge x d with h5 | h5
    · rw [r2.out x (.inl h5)]
      obtain ⟨x2, x3, x4, ex⟩ := l2.from_ x h1 h5
      obtain ⟨y2, y3, y4, ey⟩ := r2.from_ y h4 h3
      rw [ex, ey, e2 y2 y3]
      exact cross x2 y2 x3 x4 y3 y4
    · exact r1 x y h5 h2 h3
def stB (lt : Nat → Nat → Bool) (n : Nat) : Nat → Nat → (Nat → Nat) → Nat → Nat
  | 0, _, f => f
  | k + 1, a, f => if a + 20 ≤ n then stB lt n k (a + 20) (insF lt a (a + 20) f) else insF lt a n f
def stM (lt : Nat → Nat → Bool) (n bs : Nat) : Nat → Nat → (Nat → Nat) → Nat → Nat
  | 0, _, f => f
  | k + 1, a, f => if a + 2 * bs ≤ n then stM lt n bs k (a + 2 * bs) (symF lt (2 * bs) a (a + bs) (a + 2 * bs) f) else if a + bs < n then symF lt (n - a) a (a + bs) n f else f
def stL (lt : Nat → Nat → Bool) (n : Nat) : Nat → Nat → (Nat → Nat) → Nat → Nat
  | 0, _, f => f
  | k + 1, bs, f => if bs < n then stL lt n k (2 * bs) (stM lt n bs (n + 1) 0 f) else f
def stab (lt : Nat → Nat → Bool) (n : Nat) : Nat → Nat := stL lt n (n + 1) 20 (stB lt n (n + 1) 0 fun i => i)
structure Seg (lt : Nat → Nat → Bool) (a b : Nat) (f : Nat → Nat) : Prop where
  ord : Ord lt f a b
  own : ∀ i, a ≤ i → i < b → a ≤ f i ∧ f i < b
theorem Seg.congr {lt : Nat → Nat → Bool} {a b : Nat} {f g : Nat → Nat} (h : Seg lt a b f) (e : ∀ i, a ≤ i → i < b → g i = f i) : Seg lt a b g :=
  ⟨h.ord.congr e, fun i h1 h2 => by rw [e i h1 h2]; exact h.own i h1 h2⟩
def Blks (lt : Nat → Nat → Bool) (n bs : Nat) : Nat → Nat → (Nat → Nat) → Prop
  | 0, _, _ => True
  | k + 1, a, f => if a + bs < n then Seg lt a (a + bs) f ∧ Blks lt n bs k (a + bs) f else Seg lt a n f
theorem Blks.congr {lt : Nat → Nat → Bool} {n bs : Nat} {f g : Nat → Nat} : ∀ (k a : Nat), Blks lt n bs k a f → (∀ i, a ≤ i → g i = f i) → Blks lt n bs k a g
  | 0, _, _, _ => trivial
  | k + 1, a, h, e => by
    unfold Blks at h ⊢
    split
    · rename_i hlt
      rw [if_pos hlt] at h
      exact ⟨h.1.congr fun i h1 _ => e i h1, Blks.congr k _ h.2 fun i hi => e i (by omega)⟩
    · rename_i hge
      rw [if_neg hge] at h
      exact h.congr fun i h1 _ => e i h1
theorem Mix.own {a b : Nat} {f g : Nat → Nat} (h : Mix a b f g) (ho : ∀ i, a ≤ i → i < b → a ≤ f i ∧ f i < b) : ∀ i, a ≤ i → i < b → a ≤ g i ∧ g i < b := fun i h1 h2 => by
  obtain ⟨j, j1, j2, e⟩ := h.from_ i h1 h2
  rw [e]; exact ho j j1 j2
theorem stB_blks {lt : Nat → Nat → Bool} (hw : Weak lt) {n : Nat} : ∀ (k a : Nat) (f : Nat → Nat), a ≤ n → n - a < k → (∀ i, a ≤ i → f i = i) → Blks lt n 20 k a (stB lt n k a f) ∧ Mix a n f (stB lt n k a f)
  | 0, a, f, _, hk, _ => by omega
  | k + 1, a, f, ha, hk, hf => by
    unfold stB
    by_cases h : a + 20 ≤ n
    · rw [if_pos h]
      obtain ⟨o1, m1⟩ := insF_ord hw (a := a) (b := a + 20) f (fun x y h1 h2 h3 => by rw [hf x h1, hf y (by omega)]; exact h2)
      obtain ⟨o2, m2⟩ := stB_blks hw k (a + 20) (insF lt a (a + 20) f) h (by omega) (fun i hi => (m1.out i (.inr hi)).trans (hf i (by omega)))
      have hseg : Seg lt a (a + 20) (stB lt n k (a + 20) (insF lt a (a + 20) f)) :=
        Seg.congr ⟨o1, m1.own fun i h1 h2 => by rw [hf i h1]; exact ⟨h1, h2⟩⟩ fun i _ h2 => m2.out i (.inl h2)
      refine ⟨?_, (m1.wide (Nat.le_refl _) h).trans (m2.wide (by omega) (Nat.le_refl _))⟩
      unfold Blks
      split
      · exact ⟨hseg, o2⟩
      · rw [show n = a + 20 by omega] at hseg ⊢; exact hseg
    · rw [if_neg h]
      obtain ⟨o1, m1⟩ := insF_ord hw (a := a) (b := n) f (fun x y h1 h2 h3 => by rw [hf x h1, hf y (by omega)]; exact h2)
      refine ⟨?_, m1⟩
      unfold Blks
      rw [if_neg (by omega)]
      exact ⟨o1, m1.own fun i h1 h2 => by rw [hf i h1]; exact ⟨h1, h2⟩⟩
theorem sym_seg {lt : Nat → Nat → Bool} (hw : Weak lt) {k a m b : Nat} {f : Nat → Nat} (ham : a < m) (hmb : m < b) (hk : b - a ≤ k) (s1 : Seg lt a m f) (s2 : Seg lt m b f) : Seg lt a b (symF lt k a m b f) ∧ Mix a b f (symF lt k a m b f) := by
  obtain ⟨o, x⟩ := sym_ord hw k a m b f ham hmb hk s1.ord s2.ord fun x y h1 h2 h3 h4 => by
    have := (s1.own x h1 h2).2
    have := (s2.own y h3 h4).1
    omega
  refine ⟨⟨o, x.own fun i h1 h2 => ?_⟩, x⟩
  rcases Nat.lt_or_ge i m with h | h
  · have := s1.own i h1 h; omega
  · have := s2.own i h h2; omega
theorem stM_blks {lt : Nat → Nat → Bool} (hw : Weak lt) {n bs : Nat} (hbs : 0 < bs) : ∀ (k q a : Nat) (f : Nat → Nat), a ≤ n → n - a < k → n - a < q → Blks lt n bs q a f → Blks lt n (2 * bs) k a (stM lt n bs k a f) ∧ Mix a n f (stM lt n bs k a f)
  | 0, q, a, f, _, hk, _, _ => by omega
  | k + 1, q, a, f, ha, hk, hq, hb => by
    obtain ⟨q, rfl⟩ : ∃ p, q = p + 1 := ⟨q - 1, by omega⟩
    unfold stM
    unfold Blks at hb
    by_cases h : a + 2 * bs ≤ n
    · rw [if_pos h]
      rw [if_pos (by omega)] at hb
      obtain ⟨s1, hb⟩ := hb
      obtain ⟨q, rfl⟩ : ∃ p, q = p + 1 := ⟨q - 1, by omega⟩
      unfold Blks at hb
      have hs2 : Seg lt (a + bs) (a + 2 * bs) f ∧ (a + 2 * bs < n → Blks lt n bs q (a + 2 * bs) f) := by
        split at hb
        · rw [show a + bs + bs = a + 2 * bs by omega] at hb; exact ⟨hb.1, fun _ => hb.2⟩
        · rw [show n = a + 2 * bs by omega] at hb ⊢; exact ⟨hb, fun h => by omega⟩
      obtain ⟨g1, g2⟩ := sym_seg hw (k := 2 * bs) (show a < a + bs by omega) (show a + bs < a + 2 * bs by omega) (by omega) s1 hs2.1
      rcases Nat.lt_or_ge (a + 2 * bs) n with h2 | h2
      · obtain ⟨r1, r2⟩ := stM_blks hw hbs k q (a + 2 * bs) (symF lt (2 * bs) a (a + bs) (a + 2 * bs) f) h (by omega) (by omega) (Blks.congr q _ (hs2.2 h2) fun i hi => g2.out i (.inr hi))
        refine ⟨?_, (g2.wide (Nat.le_refl _) h).trans (r2.wide (by omega) (Nat.le_refl _))⟩
        unfold Blks
        rw [if_pos h2]
        exact ⟨g1.congr fun i _ h3 => r2.out i (.inl h3), r1⟩
      · have e : stM lt n bs k (a + 2 * bs) (symF lt (2 * bs) a (a + bs) (a + 2 * bs) f) = symF lt (2 * bs) a (a + bs) (a + 2 * bs) f := by
          cases k with
          | zero => rfl
          | succ k => unfold stM; rw [if_neg (by omega), if_neg (by omega)]
        rw [e]
        refine ⟨?_, g2.wide (Nat.le_refl _) h⟩
        unfold Blks
        rw [if_neg (by omega), show n = a + 2 * bs by omega]
        exact g1
    · rw [if_neg h]
      by_cases h2 : a + bs < n
      · rw [if_pos h2]
        rw [if_pos h2] at hb
        obtain ⟨s1, hb⟩ := hb
        obtain ⟨q, rfl⟩ : ∃ p, q = p + 1 := ⟨q - 1, by omega⟩
        unfold Blks at hb
        rw [if_neg (by omega)] at hb
        obtain ⟨g1, g2⟩ := sym_seg hw (k := n - a) (show a < a + bs by omega) h2 (Nat.le_refl _) s1 hb
        refine ⟨?_, g2⟩
        unfold Blks
        rw [if_neg (by omega)]; exact g1
      · rw [if_neg h2]
        rw [if_neg h2] at hb
        refine ⟨?_, .refl ..⟩
        unfold Blks
        rw [if_neg (by omega)]; exact hb
theorem stL_ord {lt : Nat → Nat → Bool} (hw : Weak lt) {n : Nat} : ∀ (k bs : Nat) (f : Nat → Nat), 0 < bs → n - bs < k → Blks lt n bs (n + 1) 0 f → Ord lt (stL lt n k bs f) 0 n ∧ Mix 0 n f (stL lt n k bs f)
  | 0, bs, f, _, hk, _ => by omega
  | k + 1, bs, f, h0, hk, hb => by
    unfold stL
    split
    · obtain ⟨r1, r2⟩ := stM_blks hw h0 (n + 1) (n + 1) 0 f (Nat.zero_le _) (by omega) (by omega) hb
      obtain ⟨g1, g2⟩ := stL_ord hw k (2 * bs) _ (by omega) (by omega) r1
      exact ⟨g1, r2.trans g2⟩
    · unfold Blks at hb
      rw [if_neg (by omega)] at hb
      exact ⟨hb.ord, .refl ..⟩
theorem stab_ord {lt : Nat → Nat → Bool} (hw : Weak lt) (n : Nat) : Ord lt (stab lt n) 0 n ∧ Mix 0 n (fun i => i) (stab lt n) := by
  obtain ⟨b1, b2⟩ := stB_blks hw (n := n) (n + 1) 0 (fun i => i) (Nat.zero_le _) (by omega) (fun _ _ => rfl)
  obtain ⟨g1, g2⟩ := stL_ord hw (n + 1) 20 _ (by decide) (by omega) b1
  exact ⟨g1, b2.trans g2⟩
end Go.Dl.Stb


