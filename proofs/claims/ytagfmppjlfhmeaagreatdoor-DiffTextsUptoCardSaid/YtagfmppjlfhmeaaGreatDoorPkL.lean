/- Plain law: two rising rows, side by side. -/
import Derived.Test.YtagfmppjlfhmeaaGreatDoorDp1

namespace Go.Proofs.YtagfmppjlfhmeaaGreatDoor
def ltB (a b : ByteArray) : Bool := Op.bytesLess a.toList b.toList
theorem bytesLess_is : ∀ (x y : List UInt8), Op.bytesLess x y = decide (x < y)
  | [], [] => by simp [Op.bytesLess]
  | _ :: _, [] => by simp [Op.bytesLess]
  | [], _ :: _ => by simp [Op.bytesLess]
  | a :: x, b :: y => by
    rw [Op.bytesLess, bytesLess_is x y]
    simp only [List.cons_lt_cons_iff]
    by_cases h1 : a < b <;> by_cases h2 : a = b <;> by_cases h3 : x < y <;> simp [h1, h2, h3]
theorem ltB_irr (a : ByteArray) : ltB a a = false := by
  rw [ltB, bytesLess_is]; simp [List.lt_irrefl]
theorem ltB_tr {a b c : ByteArray} (h : ltB a b = true) (k : ltB b c = true) : ltB a c = true := by
  rw [ltB, bytesLess_is] at *
  simp only [decide_eq_true_eq] at *
  exact List.lt_trans h k
theorem ltB_asym {a b : ByteArray} (h : ltB a b = true) : ltB b a = false := by
  cases k : ltB b a with
  | false => rfl
  | true =>
    have := ltB_tr h k
    rw [ltB_irr] at this; cases this
theorem toL_inj {a b : ByteArray} (h : a.toList = b.toList) : a = b := by
  have h : a.data.toList = b.data.toList := by simpa [ByteArray.toList_eq] using h
  obtain ⟨⟨x⟩⟩ := a
  obtain ⟨⟨y⟩⟩ := b
  simp only at h
  rw [h]
theorem ltB_tri {a b : ByteArray} (h : ltB a b = false) (k : ltB b a = false) : a = b := by
  rw [ltB, bytesLess_is] at *
  simp only [decide_eq_false_iff_not, List.not_lt] at *
  exact toL_inj (List.le_antisymm k h)
theorem ltB_ne {a b : ByteArray} (h : ltB a b = true) : a ≠ b := fun e => by
  rw [e, ltB_irr] at h; cases h
section
variable {α β γ : Type} (f : α → ByteArray) (g : β → ByteArray) (e : γ → ByteArray)
/-- The keys rise. -/
def Ris : List α → Prop
  | [] => True
  | a :: l => (∀ b ∈ l, ltB (f a) (f b) = true) ∧ Ris l
/-- What stands at a key. -/
def look (p : ByteArray) : List α → Option α
  | [] => none
  | a :: l => bif decide (f a = p) then some a else look p l
variable {f g e}
theorem look_mem {p : ByteArray} {a : α} : ∀ {l : List α}, look f p l = some a → a ∈ l ∧ f a = p
  | [], h => by cases h
  | b :: l, h => by
    rw [look] at h
    by_cases hb : f b = p
    · rw [decide_eq_true hb] at h
      cases h
      exact ⟨List.mem_cons_self .., hb⟩
    · rw [decide_eq_false hb] at h
      have := look_mem (l := l) h
      exact ⟨List.mem_cons_of_mem _ this.1, this.2⟩
theorem look_none {p : ByteArray} : ∀ {l : List α}, (∀ a ∈ l, f a ≠ p) → look f p l = none
  | [], _ => rfl
  | b :: l, h => by
    rw [look, decide_eq_false (h b (List.mem_cons_self ..))]
    exact look_none fun a ha => h a (List.mem_cons_of_mem _ ha)
theorem look_some {a : α} : ∀ {l : List α}, Ris f l → a ∈ l → look f (f a) l = some a
  | [], _, h => by cases h
  | b :: l, hr, h => by
    rw [look]
    rcases List.mem_cons.1 h with rfl | h
    · rw [decide_eq_true rfl]; rfl
    · rw [decide_eq_false (ltB_ne (hr.1 a h))]
      exact look_some hr.2 h
theorem look_lo {p : ByteArray} {l : List α} (h : ∀ a ∈ l, ltB p (f a) = true) : look f p l = none :=
  look_none fun a ha k => ltB_ne (h a ha) k.symm
theorem look_head (a : α) (l : List α) : look f (f a) (a :: l) = some a := by rw [look, decide_eq_true rfl]; rfl
theorem look_tail {p : ByteArray} {a : α} {l : List α} (h : f a ≠ p) : look f p (a :: l) = look f p l := by rw [look, decide_eq_false h]; rfl
/-- Rising rows that give the same are the same. -/
theorem rows_eq : ∀ {r s : List α}, Ris f r → Ris f s → (∀ p, look f p r = look f p s) → r = s
  | [], [], _, _, _ => rfl
  | [], b :: s, _, _, h => by
    have := h (f b)
    rw [look_head] at this; cases this
  | a :: r, [], _, _, h => by
    have := h (f a)
    rw [look_head] at this; cases this
  | a :: r, b :: s, hr, hs, h => by
    have h1 := h (f a)
    rw [look_head] at h1
    have m1 := (look_mem h1.symm).1
    have h2 := h (f b)
    rw [look_head] at h2
    have m2 := (look_mem h2).1
    have hab : a = b := by
      rcases List.mem_cons.1 m1 with e1 | m1
      · exact e1
      · rcases List.mem_cons.1 m2 with e2 | m2
        · exact e2.symm
        · have k1 := hs.1 a m1
          have k2 := hr.1 b m2
          rw [ltB_asym k1] at k2; cases k2
    subst hab
    refine congrArg (a :: ·) (rows_eq hr.2 hs.2 fun p => ?_)
    by_cases hp : f a = p
    · subst hp
      rw [look_lo hr.1, look_lo hs.1]
    · have := h p
      rwa [look_tail hp, look_tail hp] at this
theorem rows_nil {r : List α} (h : ∀ p, look f p r = none) : r = [] := by
  cases r with
  | nil => rfl
  | cons a r =>
    have := h (f a)
    rw [look_head] at this; cases this
theorem ris_map {h : α → β} (he : ∀ a, g (h a) = f a) : ∀ {l : List α}, Ris f l → Ris g (l.map h)
  | [], _ => trivial
  | a :: l, hr => ⟨fun b hb => by
      obtain ⟨c, hc, rfl⟩ := List.mem_map.1 hb
      rw [he, he]; exact hr.1 c hc, ris_map he hr.2⟩
theorem look_map {h : α → β} (he : ∀ a, g (h a) = f a) (p : ByteArray) : ∀ l : List α, look g p (l.map h) = (look f p l).map h
  | [] => rfl
  | a :: l => by
    rw [List.map_cons, look, look, he, look_map he p l]
    by_cases hp : f a = p
    · rw [decide_eq_true hp]; rfl
    · rw [decide_eq_false hp]; rfl
/-- A row filtered. -/
theorem ris_fm {h : α → Option γ} : ∀ {l : List α}, (∀ a ∈ l, ∀ c, h a = some c → e c = f a) → Ris f l → Ris e (l.filterMap h)
  | [], _, _ => trivial
  | a :: l, he, hr => by
    have ih := ris_fm (fun b hb => he b (List.mem_cons_of_mem _ hb)) hr.2
    rw [List.filterMap_cons]
    cases hx : h a with
    | none => exact ih
    | some c =>
      refine ⟨fun d hd => ?_, ih⟩
      obtain ⟨b, hb, hbd⟩ := List.mem_filterMap.1 hd
      rw [he a (List.mem_cons_self ..) c hx, he b (List.mem_cons_of_mem _ hb) d hbd]
      exact hr.1 b hb
theorem look_fm {h : α → Option γ} (p : ByteArray) : ∀ {l : List α}, (∀ a ∈ l, ∀ c, h a = some c → e c = f a) → Ris f l → look e p (l.filterMap h) = (look f p l).bind h
  | [], _, _ => rfl
  | a :: l, he, hr => by
    have he2 := fun b hb => he b (List.mem_cons_of_mem a hb)
    have ih := look_fm p he2 hr.2
    rw [List.filterMap_cons]
    by_cases hp : f a = p
    · subst hp
      rw [look_head]
      cases hx : h a with
      | none =>
        show look e (f a) _ = (some a).bind h
        rw [ih, look_lo hr.1, Option.bind_some, hx]; rfl
      | some c =>
        have hc := he a (List.mem_cons_self ..) c hx
        show look e (f a) (c :: _) = (some a).bind h
        rw [← hc, look_head, Option.bind_some, hx]
    · rw [look_tail hp, ← ih]
      cases hx : h a with
      | none => rfl
      | some c =>
        have hc := he a (List.mem_cons_self ..) c hx
        exact look_tail (by rw [hc]; exact hp)
end
section
variable {α β γ : Type} (f : α → ByteArray) (g : β → ByteArray) (e : γ → ByteArray)
/-- Two rows side by side. -/
def mrg : List α → List β → List (Option α × Option β)
  | [], [] => []
  | a :: l, [] => (some a, none) :: mrg l []
  | [], b :: m => (none, some b) :: mrg [] m
  | a :: l, b :: m =>
    bif ltB (f a) (g b) then (some a, none) :: mrg l (b :: m)
    else bif ltB (g b) (f a) then (none, some b) :: mrg (a :: l) m
    else (some a, some b) :: mrg l m
termination_by l m => l.length + m.length
/-- The key of a pair. -/
def kp : Option α × Option β → ByteArray
  | (some a, _) => f a
  | (none, some b) => g b
  | (none, none) => ⟨#[]⟩
variable {f g e}
theorem mrg_nil : mrg f g [] [] = [] := by rw [mrg]
theorem mrg_l (a : α) (l : List α) : mrg f g (a :: l) [] = (some a, none) :: mrg f g l [] := by rw [mrg]
theorem mrg_r (b : β) (m : List β) : mrg f g [] (b :: m) = (none, some b) :: mrg f g [] m := by rw [mrg]
theorem mrg_lt {a : α} {l : List α} {b : β} {m : List β} (h : ltB (f a) (g b) = true) : mrg f g (a :: l) (b :: m) = (some a, none) :: mrg f g l (b :: m) := by rw [mrg, h]; rfl
theorem mrg_gt {a : α} {l : List α} {b : β} {m : List β} (h : ltB (f a) (g b) = false) (k : ltB (g b) (f a) = true) : mrg f g (a :: l) (b :: m) = (none, some b) :: mrg f g (a :: l) m := by rw [mrg, h, k]; rfl
theorem mrg_eq {a : α} {l : List α} {b : β} {m : List β} (h : ltB (f a) (g b) = false) (k : ltB (g b) (f a) = false) : mrg f g (a :: l) (b :: m) = (some a, some b) :: mrg f g l m := by rw [mrg, h, k]; rfl
theorem mrg_ind {C : List α → List β → Prop} (h0 : C [] []) (h1 : ∀ a l, C l [] → C (a :: l) []) (h2 : ∀ b m, C [] m → C [] (b :: m))
    (h3 : ∀ a l b m, ltB (f a) (g b) = true → C l (b :: m) → C (a :: l) (b :: m)) (h4 : ∀ a l b m, ltB (f a) (g b) = false → ltB (g b) (f a) = true → C (a :: l) m → C (a :: l) (b :: m))
    (h5 : ∀ a l b m, ltB (f a) (g b) = false → ltB (g b) (f a) = false → C l m → C (a :: l) (b :: m)) : ∀ (n : Nat) (l : List α) (m : List β), l.length + m.length ≤ n → C l m
  | _, [], [], _ => h0
  | 0, _ :: _, _, h => by simp at h
  | 0, [], _ :: _, h => by simp at h
  | n + 1, a :: l, [], h => h1 a l (mrg_ind h0 h1 h2 h3 h4 h5 n l [] (by simp at h ⊢; omega))
  | n + 1, [], b :: m, h => h2 b m (mrg_ind h0 h1 h2 h3 h4 h5 n [] m (by simp at h ⊢; omega))
  | n + 1, a :: l, b :: m, h => by
    cases k1 : ltB (f a) (g b) with
    | true => exact h3 a l b m k1 (mrg_ind h0 h1 h2 h3 h4 h5 n l (b :: m) (by simp at h ⊢; omega))
    | false =>
      cases k2 : ltB (g b) (f a) with
      | true => exact h4 a l b m k1 k2 (mrg_ind h0 h1 h2 h3 h4 h5 n (a :: l) m (by simp at h ⊢; omega))
      | false => exact h5 a l b m k1 k2 (mrg_ind h0 h1 h2 h3 h4 h5 n l m (by simp at h ⊢; omega))
theorem mrg_mem (l : List α) (m : List β) : ∀ q ∈ mrg f g l m, (∃ a ∈ l, q = (some a, none)) ∨ (∃ b ∈ m, q = (none, some b)) ∨ (∃ a ∈ l, ∃ b ∈ m, q = (some a, some b) ∧ f a = g b) := by
  refine mrg_ind (f := f) (g := g) (C := fun l m => ∀ q ∈ mrg f g l m, (∃ a ∈ l, q = (some a, none)) ∨ (∃ b ∈ m, q = (none, some b)) ∨ (∃ a ∈ l, ∃ b ∈ m, q = (some a, some b) ∧ f a = g b)) ?_ ?_ ?_ ?_ ?_ ?_ _ l m (Nat.le_refl _)
  · intro q h; rw [mrg_nil] at h; cases h
  · intro a l ih q h
    rw [mrg_l] at h
    rcases List.mem_cons.1 h with rfl | h
    · exact .inl ⟨a, List.mem_cons_self .., rfl⟩
    · rcases ih q h with ⟨x, hx, e⟩ | ⟨y, hy, _⟩ | ⟨_, _, y, hy, _⟩
      · exact .inl ⟨x, List.mem_cons_of_mem _ hx, e⟩
      · cases hy
      · cases hy
  · intro b m ih q h
    rw [mrg_r] at h
    rcases List.mem_cons.1 h with rfl | h
    · exact .inr (.inl ⟨b, List.mem_cons_self .., rfl⟩)
    · rcases ih q h with ⟨x, hx, _⟩ | ⟨y, hy, e⟩ | ⟨x, hx, _⟩
      · cases hx
      · exact .inr (.inl ⟨y, List.mem_cons_of_mem _ hy, e⟩)
      · cases hx
  · intro a l b m k ih q h
    rw [mrg_lt k] at h
    rcases List.mem_cons.1 h with rfl | h
    · exact .inl ⟨a, List.mem_cons_self .., rfl⟩
    · rcases ih q h with ⟨x, hx, e⟩ | h | ⟨x, hx, h⟩
      · exact .inl ⟨x, List.mem_cons_of_mem _ hx, e⟩
      · exact .inr (.inl h)
      · exact .inr (.inr ⟨x, List.mem_cons_of_mem _ hx, h⟩)
  · intro a l b m k1 k2 ih q h
    rw [mrg_gt k1 k2] at h
    rcases List.mem_cons.1 h with rfl | h
    · exact .inr (.inl ⟨b, List.mem_cons_self .., rfl⟩)
    · rcases ih q h with h | ⟨y, hy, e⟩ | ⟨x, hx, y, hy, h⟩
      · exact .inl h
      · exact .inr (.inl ⟨y, List.mem_cons_of_mem _ hy, e⟩)
      · exact .inr (.inr ⟨x, hx, y, List.mem_cons_of_mem _ hy, h⟩)
  · intro a l b m k1 k2 ih q h
    rw [mrg_eq k1 k2] at h
    rcases List.mem_cons.1 h with rfl | h
    · exact .inr (.inr ⟨a, List.mem_cons_self .., b, List.mem_cons_self .., rfl, ltB_tri k1 k2⟩)
    · rcases ih q h with ⟨x, hx, e⟩ | ⟨y, hy, e⟩ | ⟨x, hx, y, hy, h⟩
      · exact .inl ⟨x, List.mem_cons_of_mem _ hx, e⟩
      · exact .inr (.inl ⟨y, List.mem_cons_of_mem _ hy, e⟩)
      · exact .inr (.inr ⟨x, List.mem_cons_of_mem _ hx, y, List.mem_cons_of_mem _ hy, h⟩)
theorem kp_lo {p : ByteArray} {l : List α} {m : List β} (h1 : ∀ a ∈ l, ltB p (f a) = true) (h2 : ∀ b ∈ m, ltB p (g b) = true) : ∀ q ∈ mrg f g l m, ltB p (kp f g q) = true := by
  intro q hq
  rcases mrg_mem l m q hq with ⟨x, hx, rfl⟩ | ⟨y, hy, rfl⟩ | ⟨x, hx, y, hy, rfl, _⟩
  · exact h1 x hx
  · exact h2 y hy
  · exact h1 x hx
theorem ris_lo {a : β} {l : List β} {p : ByteArray} (h : ltB p (g a) = true) (hr : Ris g (a :: l)) : ∀ b ∈ a :: l, ltB p (g b) = true := by
  intro b hb
  rcases List.mem_cons.1 hb with rfl | hb
  · exact h
  · exact ltB_tr h (hr.1 b hb)
theorem mrg_ris (l : List α) (m : List β) : Ris f l → Ris g m → Ris (kp f g) (mrg f g l m) := by
  refine mrg_ind (f := f) (g := g) (C := fun l m => Ris f l → Ris g m → Ris (kp f g) (mrg f g l m)) ?_ ?_ ?_ ?_ ?_ ?_ _ l m (Nat.le_refl _)
  · intro _ _; rw [mrg_nil]; trivial
  · intro a l ih h1 h2
    rw [mrg_l]
    exact ⟨kp_lo h1.1 (fun _ h => by cases h), ih h1.2 h2⟩
  · intro b m ih h1 h2
    rw [mrg_r]
    exact ⟨kp_lo (fun _ h => by cases h) h2.1, ih h1 h2.2⟩
  · intro a l b m k ih h1 h2
    rw [mrg_lt k]
    exact ⟨kp_lo h1.1 (ris_lo k h2), ih h1.2 h2⟩
  · intro a l b m k1 k2 ih h1 h2
    rw [mrg_gt k1 k2]
    exact ⟨kp_lo (ris_lo k2 h1) h2.1, ih h1 h2.2⟩
  · intro a l b m k1 k2 ih h1 h2
    rw [mrg_eq k1 k2]
    have e := ltB_tri k1 k2
    exact ⟨kp_lo h1.1 (by show ∀ x ∈ m, ltB (f a) (g x) = true; rw [e]; exact h2.1), ih h1.2 h2.2⟩
/-- The pair of two finds. -/
def two : Option α → Option β → Option (Option α × Option β)
  | none, none => none
  | x, y => some (x, y)
theorem mrg_look (p : ByteArray) (l : List α) (m : List β) : Ris f l → Ris g m → look (kp f g) p (mrg f g l m) = two (look f p l) (look g p m) := by
  refine mrg_ind (f := f) (g := g) (C := fun l m => Ris f l → Ris g m → look (kp f g) p (mrg f g l m) = two (look f p l) (look g p m)) ?_ ?_ ?_ ?_ ?_ ?_ _ l m (Nat.le_refl _)
  · intro _ _; rw [mrg_nil]; rfl
  · intro a l ih h1 h2
    rw [mrg_l, look]
    show (bif decide (f a = p) then _ else _) = two (bif decide (f a = p) then _ else _) _
    by_cases hp : f a = p
    · rw [decide_eq_true hp]; rfl
    · rw [decide_eq_false hp]; exact ih h1.2 h2
  · intro b m ih h1 h2
    rw [mrg_r, look]
    show (bif decide (g b = p) then _ else _) = two _ (bif decide (g b = p) then _ else _)
    by_cases hp : g b = p
    · rw [decide_eq_true hp]; rfl
    · rw [decide_eq_false hp]; exact ih h1 h2.2
  · intro a l b m k ih h1 h2
    rw [mrg_lt k, look]
    show (bif decide (f a = p) then _ else _) = two (bif decide (f a = p) then _ else _) _
    by_cases hp : f a = p
    · rw [decide_eq_true hp, look_lo (f := g) (p := p) (by rw [← hp]; exact ris_lo k h2)]; rfl
    · rw [decide_eq_false hp]; exact ih h1.2 h2
  · intro a l b m k1 k2 ih h1 h2
    rw [mrg_gt k1 k2, look]
    show (bif decide (g b = p) then _ else _) = _
    by_cases hp : g b = p
    · rw [decide_eq_true hp, look_lo (f := f) (p := p) (by rw [← hp]; exact ris_lo k2 h1), look, decide_eq_true hp]; rfl
    · rw [decide_eq_false hp]
      refine (ih h1 h2.2).trans ?_
      rw [look_tail (f := g) hp]
  · intro a l b m k1 k2 ih h1 h2
    have e := ltB_tri k1 k2
    rw [mrg_eq k1 k2, look]
    show (bif decide (f a = p) then _ else _) = two (bif decide (f a = p) then _ else _) (bif decide (g b = p) then _ else _)
    by_cases hp : f a = p
    · rw [decide_eq_true hp, decide_eq_true (e.symm.trans hp)]; rfl
    · rw [decide_eq_false hp, decide_eq_false (fun c => hp (e.trans c))]; exact ih h1.2 h2.2
/-- What is so of every pair is so at every key. -/
theorem mrg_all {Q : Option α × Option β → Prop} {l : List α} {m : List β} (h1 : Ris f l) (h2 : Ris g m) : (∀ q ∈ mrg f g l m, Q q) ↔ ∀ p q, two (look f p l) (look g p m) = some q → Q q := by
  constructor
  · intro h p q hq
    rw [← mrg_look p l m h1 h2] at hq
    exact h q (look_mem hq).1
  · intro h q hq
    have := look_some (mrg_ris l m h1 h2) hq
    rw [mrg_look _ l m h1 h2] at this
    exact h _ q this
theorem mrg_fm {h : Option α × Option β → Option γ} {l : List α} {m : List β} (he : ∀ q c, h q = some c → (∀ a b, q = (some a, some b) → f a = g b) → e c = kp f g q) (h1 : Ris f l) (h2 : Ris g m) :
    Ris e ((mrg f g l m).filterMap h) ∧ ∀ p, look e p ((mrg f g l m).filterMap h) = (two (look f p l) (look g p m)).bind h := by
  have hk : ∀ q ∈ mrg f g l m, ∀ c, h q = some c → e c = kp f g q := fun q hq c hc => he q c hc fun a b hab => by
    rcases mrg_mem l m q hq with ⟨x, hx, rfl⟩ | ⟨y, hy, rfl⟩ | ⟨x, hx, y, hy, rfl, k⟩
    · cases hab
    · cases hab
    · cases hab; exact k
  refine ⟨ris_fm hk (mrg_ris l m h1 h2), fun p => ?_⟩
  rw [look_fm p hk (mrg_ris l m h1 h2), mrg_look p l m h1 h2]
theorem two_some {x : Option α} {y : Option β} {q : Option α × Option β} (h : two x y = some q) : q = (x, y) := by
  cases x <;> cases y <;> cases h <;> rfl
end
end Go.Proofs.YtagfmppjlfhmeaaGreatDoor

namespace Go.Proofs.YtagfmppjlfhmeaaGreatDoor
structure Lf where
  p : ByteArray
  v : ByteArray
  deriving DecidableEq
structure Ch where
  p : ByteArray
  hw : Bool
  was : ByteArray
  hi : Bool
  is : ByteArray
  deriving DecidableEq
abbrev emB : ByteArray := ⟨#[]⟩
def betO : Option Lf × Option Lf → Option Ch
  | (some x, none) => some ⟨x.p, true, x.v, false, emB⟩
  | (none, some y) => some ⟨y.p, false, emB, true, y.v⟩
  | (some x, some y) => bif decide (x.v = y.v) then none else some ⟨x.p, true, x.v, true, y.v⟩
  | (none, none) => none
def mLL (a b : List Lf) := mrg Lf.p Lf.p a b
def mLC (a : List Lf) (c : List Ch) := mrg Lf.p Ch.p a c
def mCC (c d : List Ch) := mrg Ch.p Ch.p c d
/-- The changes from one row to another one. -/
def betT (a b : List Lf) : List Ch := (mLL a b).filterMap betO
def backC (c : Ch) : Ch := ⟨c.p, c.hi, c.is, c.hw, c.was⟩
/-- Why a change can't be done to a leaf. -/
def wr : Option Lf × Option Ch → Int
  | (_, none) => 0
  | (none, some c) => bif c.hw then 44 else 0
  | (some x, some c) => bif c.hw then (bif decide (x.v = c.was) then 0 else 54) else 42
def appO : Option Lf × Option Ch → Option Lf
  | (x, none) => x
  | (_, some c) => bif c.hi then some ⟨c.p, c.is⟩ else none
def errs : List (Option Lf × Option Ch) → Int
  | [] => 0
  | q :: l => bif decide (wr q = 0) then errs l else wr q
/-- Changes done. -/
def appT (l : List Lf) (c : List Ch) : List Lf × Int := bif decide (errs (mLC l c) = 0) then ((mLC l c).filterMap appO, 0) else (l, errs (mLC l c))
def jb : Option Ch × Option Ch → Bool
  | (some x, some y) => bif x.hi == y.hw then !decide (x.is = y.was) else true
  | _ => false
def jn : Option Ch × Option Ch → Option Ch
  | (x, none) => x
  | (none, y) => y
  | (some x, some y) => bif (bif x.hw == y.hi then decide (x.was = y.is) else false) then none else some ⟨x.p, x.hw, x.was, y.hi, y.is⟩
/-- Changes, and others behind them. -/
def joinT (c d : List Ch) : List Ch × Int := bif (mCC c d).any jb then ([], 54) else ((mCC c d).filterMap jn, 0)
section
variable (V P : ByteArray → Bool)
/-- What a change is. -/
def OneC (c : Ch) : Prop := P c.p = true ∧ V c.was = true ∧ V c.is = true ∧ (c.hw = true ∨ c.hi = true) ∧ (c.hw = false → c.was = emB) ∧ (c.hi = false → c.is = emB) ∧ (c.hw = true → c.hi = true → c.was ≠ c.is)
def FitL (l : List Lf) : Prop := (∀ x ∈ l, P x.p = true ∧ V x.v = true) ∧ Ris Lf.p l
def FitC (c : List Ch) : Prop := (∀ x ∈ c, OneC V P x) ∧ Ris Ch.p c
end
theorem bet_ss (x y : Lf) : betO (some x, some y) = bif decide (x.v = y.v) then none else some ⟨x.p, true, x.v, true, y.v⟩ := rfl
theorem app_xs (X : Option Lf) (c : Ch) : appO (X, some c) = bif c.hi then some ⟨c.p, c.is⟩ else none := by cases X <;> rfl
theorem jn_ss (x y : Ch) : jn (some x, some y) = bif (bif x.hw == y.hi then decide (x.was = y.is) else false) then none else some ⟨x.p, x.hw, x.was, y.hi, y.is⟩ := rfl
theorem two_bind {α β γ : Type} {h : Option α × Option β → Option γ} (h0 : h (none, none) = none) (x : Option α) (y : Option β) : (two x y).bind h = h (x, y) := by
  cases x <;> cases y <;> first | rfl | exact h0.symm
theorem two_all {α β : Type} {Q : Option α × Option β → Prop} (h0 : Q (none, none)) (x : Option α) (y : Option β) : (∀ q, two x y = some q → Q q) ↔ Q (x, y) := by
  cases x <;> cases y
  · exact ⟨fun _ => h0, fun _ q h => (nomatch h)⟩
  all_goals refine ⟨fun h => h _ rfl, fun h q hq => by cases hq; exact h⟩
theorem bet_row {a b : List Lf} (ha : Ris Lf.p a) (hb : Ris Lf.p b) : Ris Ch.p (betT a b) ∧ ∀ p, look Ch.p p (betT a b) = betO (look Lf.p p a, look Lf.p p b) := by
  have h := mrg_fm (e := Ch.p) (h := betO) (f := Lf.p) (g := Lf.p) (fun q c hq _ => by
    match q, hq with
    | (some x, none), hq => cases hq; rfl
    | (none, some y), hq => cases hq; rfl
    | (some x, some y), hq =>
      rw [bet_ss] at hq
      cases hd : decide (x.v = y.v) with
      | true => rw [hd] at hq; cases hq
      | false => rw [hd] at hq; cases hq; rfl
    | (none, none), hq => cases hq) ha hb
  exact ⟨h.1, fun p => by rw [betT, mLL, h.2 p, two_bind rfl]⟩
theorem errs_zero : ∀ {l : List (Option Lf × Option Ch)}, errs l = 0 ↔ ∀ q ∈ l, wr q = 0
  | [] => ⟨fun _ _ h => (by cases h), fun _ => rfl⟩
  | q :: l => by
    rw [errs]
    by_cases h : wr q = 0
    · rw [decide_eq_true h, cond_true, errs_zero]
      exact ⟨fun k r hr => by
        rcases List.mem_cons.1 hr with rfl | hr
        · exact h
        · exact k r hr, fun k r hr => k r (List.mem_cons_of_mem _ hr)⟩
    · rw [decide_eq_false h, cond_false]
      exact ⟨fun k => absurd k h, fun k => k q (List.mem_cons_self ..)⟩
theorem app_iff {l : List Lf} {c : List Ch} (hl : Ris Lf.p l) (hc : Ris Ch.p c) : (appT l c).2 = 0 ↔ ∀ p, wr (look Lf.p p l, look Ch.p p c) = 0 := by
  have h1 : (appT l c).2 = 0 ↔ errs (mLC l c) = 0 := by
    unfold appT
    by_cases h : errs (mLC l c) = 0
    · rw [decide_eq_true h]; exact ⟨fun _ => h, fun _ => rfl⟩
    · rw [decide_eq_false h]; exact Iff.rfl
  rw [h1, errs_zero]
  refine (mrg_all hl hc).trans (forall_congr' fun p => ?_)
  exact two_all (Q := fun q => wr q = 0) rfl _ _
theorem app_row {l : List Lf} {c : List Ch} (hl : Ris Lf.p l) (hc : Ris Ch.p c) (h0 : (appT l c).2 = 0) : Ris Lf.p (appT l c).1 ∧ ∀ p, look Lf.p p (appT l c).1 = appO (look Lf.p p l, look Ch.p p c) := by
  have h := mrg_fm (e := Lf.p) (h := appO) (f := Lf.p) (g := Ch.p) (fun q c hq hk => by
    match q, hq with
    | (some x, none), hq => cases hq; rfl
    | (none, none), hq => cases hq
    | (some x, some y), hq =>
      have hk := hk _ _ rfl
      rw [app_xs] at hq
      cases hd : y.hi with
      | true => rw [hd] at hq; cases hq; exact hk.symm
      | false => rw [hd] at hq; cases hq
    | (none, some y), hq =>
      rw [app_xs] at hq
      cases hd : y.hi with
      | true => rw [hd] at hq; cases hq; rfl
      | false => rw [hd] at hq; cases hq) hl hc
  have e : (appT l c).1 = (mLC l c).filterMap appO := by
    unfold appT at h0 ⊢
    cases hd : decide (errs (mLC l c) = 0) with
    | true => rfl
    | false => rw [hd] at h0; exact absurd h0 (of_decide_eq_false hd)
  rw [e]
  exact ⟨h.1, fun p => by rw [mLC, h.2 p, two_bind rfl]⟩
theorem app_bad {l : List Lf} {c : List Ch} (h0 : (appT l c).2 ≠ 0) : (appT l c).1 = l := by
  unfold appT at h0 ⊢
  cases hd : decide (errs (mLC l c) = 0) with
  | true => rw [hd] at h0; exact absurd rfl h0
  | false => rfl
theorem join_iff {c d : List Ch} (hc : Ris Ch.p c) (hd : Ris Ch.p d) : (joinT c d).2 = 0 ↔ ∀ p, jb (look Ch.p p c, look Ch.p p d) = false := by
  have h1 : (joinT c d).2 = 0 ↔ ∀ q ∈ mCC c d, jb q = false := by
    unfold joinT
    cases h : (mCC c d).any jb with
    | true =>
      obtain ⟨q, hq, hj⟩ := List.any_eq_true.1 h
      exact ⟨fun k => (by cases k), fun k => by rw [k q hq] at hj; cases hj⟩
    | false => exact ⟨fun _ q hq => by simpa using List.any_eq_false.1 h q hq, fun _ => rfl⟩
  rw [h1]
  refine (mrg_all hc hd).trans (forall_congr' fun p => ?_)
  exact two_all (Q := fun q => jb q = false) rfl _ _
theorem jn_key {q : Option Ch × Option Ch} {c : Ch} (hq : jn q = some c) : (∀ a b, q = (some a, some b) → a.p = b.p) → c.p = kp Ch.p Ch.p q := by
  intro hk
  match q, hq with
  | (some x, none), hq => cases hq; rfl
  | (none, none), hq => cases hq
  | (none, some y), hq => cases hq; rfl
  | (some x, some y), hq =>
    rw [jn_ss] at hq
    cases hd : (bif x.hw == y.hi then decide (x.was = y.is) else false) with
    | true => rw [hd] at hq; cases hq
    | false => rw [hd] at hq; cases hq; rfl
theorem join_row {c d : List Ch} (hc : Ris Ch.p c) (hd : Ris Ch.p d) (h0 : (joinT c d).2 = 0) : Ris Ch.p (joinT c d).1 ∧ ∀ p, look Ch.p p (joinT c d).1 = jn (look Ch.p p c, look Ch.p p d) := by
  have h := mrg_fm (e := Ch.p) (h := jn) (f := Ch.p) (g := Ch.p) (fun q c hq hk => jn_key hq hk) hc hd
  have e : (joinT c d).1 = (mCC c d).filterMap jn := by
    unfold joinT at h0 ⊢
    cases hd : (mCC c d).any jb with
    | true => rw [hd] at h0; cases h0
    | false => rfl
  rw [e]
  exact ⟨h.1, fun p => by rw [mCC, h.2 p, two_bind rfl]⟩
theorem lf_ext {x y : Lf} (h1 : x.p = y.p) (h2 : x.v = y.v) : x = y := by cases x; cases y; cases h1; cases h2; rfl
theorem lk_p {α : Type} {f : α → ByteArray} {p : ByteArray} {l : List α} {x : α} (h : look f p l = some x) : f x = p := (look_mem h).2
/-- There. -/
theorem bet_app {a b : List Lf} (ha : Ris Lf.p a) (hb : Ris Lf.p b) : appT a (betT a b) = (b, 0) := by
  have hr := bet_row ha hb
  have h0 : (appT a (betT a b)).2 = 0 := by
    refine (app_iff ha hr.1).2 fun p => ?_
    rw [hr.2 p]
    cases hx : look Lf.p p a <;> cases hy : look Lf.p p b
    · rfl
    · rfl
    · rename_i x
      show (bif true then bif decide (x.v = x.v) then (0 : Int) else 54 else 42) = 0
      rw [decide_eq_true rfl]; rfl
    · rename_i x y
      rw [bet_ss]
      cases hd : decide (x.v = y.v) with
      | true => rfl
      | false =>
        show (bif true then bif decide (x.v = x.v) then (0 : Int) else 54 else 42) = 0
        rw [decide_eq_true rfl]; rfl
  have h1 := app_row ha hr.1 h0
  refine Prod.ext (rows_eq h1.1 hb fun p => ?_) h0
  rw [h1.2 p, hr.2 p]
  cases hx : look Lf.p p a <;> cases hy : look Lf.p p b
  · rfl
  · rfl
  · rfl
  · rename_i x y
    rw [bet_ss]
    cases hd : decide (x.v = y.v) with
    | true => exact congrArg some (lf_ext ((lk_p hx).trans (lk_p hy).symm) (of_decide_eq_true hd))
    | false => exact congrArg some (lf_ext ((lk_p hx).trans (lk_p hy).symm) rfl)
theorem fm_congr {α β : Type} {f g : α → Option β} : ∀ {l : List α}, (∀ a ∈ l, f a = g a) → l.filterMap f = l.filterMap g
  | [], _ => rfl
  | a :: l, h => by rw [List.filterMap_cons, List.filterMap_cons, h a (List.mem_cons_self ..), fm_congr fun b hb => h b (List.mem_cons_of_mem _ hb)]
def swp {α β : Type} (q : Option α × Option β) : Option β × Option α := (q.2, q.1)
theorem mrg_swap {α β : Type} {f : α → ByteArray} {g : β → ByteArray} (l : List α) (m : List β) : mrg g f m l = (mrg f g l m).map swp := by
  refine mrg_ind (f := f) (g := g) (C := fun l m => mrg g f m l = (mrg f g l m).map swp) ?_ ?_ ?_ ?_ ?_ ?_ _ l m (Nat.le_refl _)
  · rw [mrg_nil, mrg_nil]; rfl
  · intro a l ih; rw [mrg_r, mrg_l, ih]; rfl
  · intro b m ih; rw [mrg_l, mrg_r, ih]; rfl
  · intro a l b m k ih; rw [mrg_gt (ltB_asym k) k, mrg_lt k, ih]; rfl
  · intro a l b m k1 k2 ih; rw [mrg_lt k2, mrg_gt k1 k2, ih]; rfl
  · intro a l b m k1 k2 ih; rw [mrg_eq k2 k1, mrg_eq k1 k2, ih]; rfl
theorem bet_back (a b : List Lf) : (betT a b).map backC = betT b a := by
  unfold betT mLL
  rw [mrg_swap (f := Lf.p) (g := Lf.p) a b, List.filterMap_map, List.map_filterMap]
  refine fm_congr fun q hq => ?_
  rcases mrg_mem a b q hq with ⟨x, hx, rfl⟩ | ⟨y, hy, rfl⟩ | ⟨x, hx, y, hy, rfl, k⟩
  · rfl
  · rfl
  · show (betO (some x, some y)).map backC = betO (some y, some x)
    rw [bet_ss, bet_ss]
    by_cases h : x.v = y.v
    · rw [decide_eq_true h, decide_eq_true h.symm]; rfl
    · rw [decide_eq_false h, decide_eq_false (fun e => h e.symm)]
      show some (Ch.mk x.p true y.v true x.v) = some (Ch.mk y.p true y.v true x.v)
      rw [k]
theorem bet_self (a : List Lf) : betT a a = [] := by
  unfold betT mLL
  induction a with
  | nil => rw [mrg_nil]; rfl
  | cons x a ih =>
    rw [mrg_eq (ltB_irr _) (ltB_irr _), List.filterMap_cons]
    rw [bet_ss, decide_eq_true rfl]
    exact ih
section
variable {V P : ByteArray → Bool}
theorem fitL_at {l : List Lf} (h : FitL V P l) {p : ByteArray} {x : Lf} (k : look Lf.p p l = some x) : P x.p = true ∧ V x.v = true := h.1 x (look_mem k).1
theorem fitC_at {c : List Ch} (h : FitC V P c) {p : ByteArray} {x : Ch} (k : look Ch.p p c = some x) : OneC V P x := h.1 x (look_mem k).1
theorem fitL_of {l : List Lf} (hr : Ris Lf.p l) (h : ∀ p x, look Lf.p p l = some x → P x.p = true ∧ V x.v = true) : FitL V P l := ⟨fun x hx => h x.p x (look_some hr hx), hr⟩
theorem fitC_of {l : List Ch} (hr : Ris Ch.p l) (h : ∀ p x, look Ch.p p l = some x → OneC V P x) : FitC V P l := ⟨fun x hx => h x.p x (look_some hr hx), hr⟩
theorem bet_fit (h0 : V emB = true) {a b : List Lf} (ha : FitL V P a) (hb : FitL V P b) : FitC V P (betT a b) := by
  have hr := bet_row ha.2 hb.2
  refine fitC_of hr.1 fun p c hc => ?_
  rw [hr.2 p] at hc
  cases hx : look Lf.p p a <;> cases hy : look Lf.p p b <;> rw [hx, hy] at hc
  · cases hc
  · rename_i y
    cases hc
    have := fitL_at hb hy
    exact ⟨this.1, h0, this.2, .inr rfl, fun _ => rfl, fun k => (nomatch k), fun k => (nomatch k)⟩
  · rename_i x
    cases hc
    have := fitL_at ha hx
    exact ⟨this.1, this.2, h0, .inl rfl, fun k => (nomatch k), fun _ => rfl, fun _ k => (nomatch k)⟩
  · rename_i x y
    rw [bet_ss] at hc
    cases hd : decide (x.v = y.v) with
    | true => rw [hd] at hc; cases hc
    | false =>
      rw [hd] at hc
      cases hc
      exact ⟨(fitL_at ha hx).1, (fitL_at ha hx).2, (fitL_at hb hy).2, .inl rfl, fun k => (nomatch k), fun k => (nomatch k), fun _ _ => of_decide_eq_false hd⟩
theorem app_fit {l : List Lf} {c : List Ch} (hl : FitL V P l) (hc : FitC V P c) : FitL V P (appT l c).1 := by
  by_cases h0 : (appT l c).2 = 0
  · have hr := app_row hl.2 hc.2 h0
    refine fitL_of hr.1 fun p x hx => ?_
    rw [hr.2 p] at hx
    cases hy : look Ch.p p c with
    | none =>
      rw [hy] at hx
      exact fitL_at hl (p := p) hx
    | some y =>
      have h1 := fitC_at hc hy
      rw [hy] at hx
      rw [app_xs] at hx
      cases hd : y.hi with
      | true => rw [hd] at hx; cases hx; exact ⟨h1.1, h1.2.2.1⟩
      | false => rw [hd] at hx; cases hx
  · rw [app_bad h0]; exact hl
theorem back_fit {c : List Ch} (hc : FitC V P c) : FitC V P (c.map backC) := by
  refine ⟨fun x hx => ?_, ris_map (fun _ => rfl) hc.2⟩
  obtain ⟨y, hy, rfl⟩ := List.mem_map.1 hx
  obtain ⟨h1, h2, h3, h4, h5, h6, h7⟩ := hc.1 y hy
  exact ⟨h1, h3, h2, h4.symm, h6, h5, fun a b e => h7 b a e.symm⟩
theorem join_back {c : List Ch} (hc : Ris Ch.p c) : joinT c (c.map backC) = ([], 0) := by
  have hb : Ris Ch.p (c.map backC) := ris_map (g := Ch.p) (h := backC) (fun _ => rfl) hc
  have lk := look_map (f := Ch.p) (g := Ch.p) (h := backC) (fun _ => rfl)
  have h0 : (joinT c (c.map backC)).2 = 0 := by
    refine (join_iff hc hb).2 fun p => ?_
    rw [lk]
    cases look Ch.p p c with
    | none => rfl
    | some x =>
      show (bif x.hi == x.hi then !decide (x.is = x.is) else true) = false
      rw [decide_eq_true rfl, beq_self_eq_true]; rfl
  have h1 := join_row hc hb h0
  refine Prod.ext (rows_nil (f := Ch.p) fun p => ?_) h0
  rw [h1.2 p, lk]
  cases look Ch.p p c with
  | none => rfl
  | some x =>
    show (bif (bif x.hw == x.hw then decide (x.was = x.was) else false) then none else _) = none
    rw [decide_eq_true rfl, beq_self_eq_true]; rfl
theorem join_fit {c d : List Ch} (hc : FitC V P c) (hd : FitC V P d) (h0 : (joinT c d).2 = 0) : FitC V P (joinT c d).1 := by
  have hr := join_row hc.2 hd.2 h0
  have hj := (join_iff hc.2 hd.2).1 h0
  refine fitC_of hr.1 fun p z hz => ?_
  rw [hr.2 p] at hz
  have hj := hj p
  cases hx : look Ch.p p c <;> cases hy : look Ch.p p d <;> rw [hx, hy] at hz hj
  · cases hz
  · cases hz; exact fitC_at hd hy
  · cases hz; exact fitC_at hc hx
  · rename_i x y
    obtain ⟨a1, a2, a3, a4, a5, a6, a7⟩ := fitC_at hc hx
    obtain ⟨b1, b2, b3, b4, b5, b6, b7⟩ := fitC_at hd hy
    rw [jn_ss] at hz
    cases hn : (bif x.hw == y.hi then decide (x.was = y.is) else false) with
    | true => rw [hn] at hz; cases hz
    | false =>
      rw [hn] at hz
      cases hz
      refine ⟨a1, a2, b3, ?_, a5, b6, fun k1 k2 e => ?_⟩
      · show x.hw = true ∨ y.hi = true
        cases e1 : x.hw with
        | true => exact .inl rfl
        | false =>
          cases e2 : y.hi with
          | true => exact .inr rfl
          | false =>
            have w1 := a5 e1
            have w2 := b6 e2
            rw [e1, e2, w1, w2] at hn
            cases hn
      · have k1 : x.hw = true := k1
        have k2 : y.hi = true := k2
        have e : x.was = y.is := e
        rw [k1, k2, e, decide_eq_true rfl] at hn
        cases hn
/-- A change as what was and what is. -/
def ov (h : Bool) (s : ByteArray) : Option ByteArray := bif h then some s else none
theorem ov_inj {h1 h2 : Bool} {s1 s2 : ByteArray} (k1 : h1 = false → s1 = emB) (k2 : h2 = false → s2 = emB) : ov h1 s1 = ov h2 s2 ↔ h1 = h2 ∧ s1 = s2 := by
  cases h1 <;> cases h2
  · exact ⟨fun _ => ⟨rfl, (k1 rfl).trans (k2 rfl).symm⟩, fun _ => rfl⟩
  · exact ⟨fun h => (nomatch h), fun h => (nomatch h.1)⟩
  · exact ⟨fun h => (nomatch h), fun h => (nomatch h.1)⟩
  · exact ⟨fun h => by cases h; exact ⟨rfl, rfl⟩, fun h => by rw [h.2]⟩
theorem bif_and {a b : Bool} {s t : ByteArray} : (bif a == b then decide (s = t) else false) = true ↔ a = b ∧ s = t := by
  cases a <;> cases b <;> simp
theorem bif_nand {a b : Bool} {s t : ByteArray} : (bif a == b then !decide (s = t) else true) = false ↔ a = b ∧ s = t := by
  cases a <;> cases b <;> simp
theorem jb_iff {x y : Ch} (hx : OneC V P x) (hy : OneC V P y) : jb (some x, some y) = false ↔ ov x.hi x.is = ov y.hw y.was := by
  rw [ov_inj hx.2.2.2.2.2.1 hy.2.2.2.2.1]
  exact bif_nand
theorem one_ne {x : Ch} (hx : OneC V P x) : ov x.hw x.was ≠ ov x.hi x.is := by
  intro e
  obtain ⟨h1, h2⟩ := (ov_inj hx.2.2.2.2.1 hx.2.2.2.2.2.1).1 e
  rcases hx.2.2.2.1 with h | h
  · exact hx.2.2.2.2.2.2 h (h1 ▸ h) h2
  · exact hx.2.2.2.2.2.2 (h1.symm ▸ h) h h2
/-- A change by what was and is. -/
def mkC (p : ByteArray) (u w : Option ByteArray) : Ch := ⟨p, u.isSome, u.getD emB, w.isSome, w.getD emB⟩
theorem mk_ov {x : Ch} (hx : OneC V P x) : mkC x.p (ov x.hw x.was) (ov x.hi x.is) = x := by
  obtain ⟨p, hw, was, hi, is⟩ := x
  obtain ⟨_, _, _, _, h5, h6, _⟩ := hx
  cases hw <;> cases hi
  · cases h5 rfl; cases h6 rfl; rfl
  · cases h5 rfl; rfl
  · cases h6 rfl; rfl
  · rfl
theorem ov_mk (p : ByteArray) (u w : Option ByteArray) : ov (mkC p u w).hw (mkC p u w).was = u ∧ ov (mkC p u w).hi (mkC p u w).is = w := by
  cases u <;> cases w <;> exact ⟨rfl, rfl⟩
/-- At one key: nothing, or what was and is (not the same). -/
def cz (p : ByteArray) : Option Ch → Prop
  | none => True
  | some x => OneC V P x ∧ x.p = p
def jm (p : ByteArray) (u w : Option ByteArray) : Option Ch := if u = w then none else some (mkC p u w)
theorem jn_some {p : ByteArray} {x y : Ch} (hx : OneC V P x) (hy : OneC V P y) (hp : x.p = p) : jn (some x, some y) = jm p (ov x.hw x.was) (ov y.hi y.is) := by
  rw [jn_ss]; unfold jm
  by_cases h : ov x.hw x.was = ov y.hi y.is
  · rw [if_pos h, bif_and.2 ((ov_inj hx.2.2.2.2.1 hy.2.2.2.2.2.1).1 h)]; rfl
  · have h2 : (bif x.hw == y.hi then decide (x.was = y.is) else false) = false := by
      cases k : (bif x.hw == y.hi then decide (x.was = y.is) else false) with
      | false => rfl
      | true => exact absurd ((ov_inj hx.2.2.2.2.1 hy.2.2.2.2.2.1).2 (bif_and.1 k)) h
    rw [if_neg h, h2]
    show some _ = some _
    obtain ⟨xp, xw, xs, xi, xt⟩ := x
    obtain ⟨yp, yw, ys, yi, yt⟩ := y
    obtain ⟨_, _, _, _, a5, a6, _⟩ := hx
    obtain ⟨_, _, _, _, b5, b6, _⟩ := hy
    cases hp
    cases xw <;> cases yi
    · cases a5 rfl; cases b6 rfl; rfl
    · cases a5 rfl; rfl
    · cases b6 rfl; rfl
    · rfl
theorem jn_fit {p : ByteArray} {X Y : Option Ch} (hx : cz (V := V) (P := P) p X) (hy : cz (V := V) (P := P) p Y) : cz (V := V) (P := P) p (jn (X, Y)) := by
  cases X <;> cases Y
  · trivial
  · exact hy
  · exact hx
  · rename_i x y
    rw [jn_some hx.1 hy.1 hx.2]
    unfold jm
    split
    · trivial
    · rename_i hne
      refine ⟨?_, rfl⟩
      obtain ⟨⟨a1, a2, a3, a4, a5, a6, a7⟩, ap⟩ := hx
      obtain ⟨⟨b1, b2, b3, b4, b5, b6, b7⟩, bp⟩ := hy
      obtain ⟨xp, xw, xs, xi, xt⟩ := x
      obtain ⟨yp, yw, ys, yi, yt⟩ := y
      cases ap
      simp only at *
      subst bp
      cases xw <;> cases yi
      · exact absurd rfl hne
      · cases a5 rfl
        exact ⟨a1, a2, b3, .inr rfl, fun _ => rfl, fun k => (nomatch k), fun k => (nomatch k)⟩
      · cases b6 rfl
        exact ⟨a1, a2, b3, .inl rfl, fun k => (nomatch k), fun _ => rfl, fun _ k => (nomatch k)⟩
      · exact ⟨a1, a2, b3, .inl rfl, fun k => (nomatch k), fun k => (nomatch k), fun _ _ e => hne (congrArg some e)⟩
theorem cz_at {c : List Ch} (hc : FitC V P c) (p : ByteArray) : cz (V := V) (P := P) p (look Ch.p p c) := by
  cases h : look Ch.p p c with
  | none => trivial
  | some x => exact ⟨fitC_at hc h, lk_p h⟩
/-- At one key: however three are grouped. -/
theorem grp_at {p : ByteArray} {C D G : Option Ch} (hc : cz (V := V) (P := P) p C) (hd : cz (V := V) (P := P) p D) (hg : cz (V := V) (P := P) p G) (h1 : jb (C, D) = false) (h2 : jb (jn (C, D), G) = false) (h3 : jb (D, G) = false) :
    jb (C, jn (D, G)) = false ∧ jn (C, jn (D, G)) = jn (jn (C, D), G) := by
  have hx := jn_fit hc hd
  have hq := jn_fit hd hg
  cases C with
  | none =>
    cases D with
    | none => cases G <;> exact ⟨rfl, rfl⟩
    | some d =>
      cases G with
      | none => exact ⟨rfl, rfl⟩
      | some g =>
        show jb (none, jn (some d, some g)) = false ∧ jn (none, jn (some d, some g)) = jn (some d, some g)
        cases jn (some d, some g) <;> exact ⟨rfl, rfl⟩
  | some c =>
    cases D with
    | none =>
      cases G with
      | none => exact ⟨rfl, rfl⟩
      | some g => exact ⟨h2, rfl⟩
    | some d =>
      cases G with
      | none =>
        refine ⟨h1, ?_⟩
        show jn (some c, some d) = jn (jn (some c, some d), none)
        cases jn (some c, some d) <;> rfl
      | some g =>
        have e1 := (jb_iff hc.1 hd.1).1 h1
        have e3 := (jb_iff hd.1 hg.1).1 h3
        rw [jn_some hc.1 hd.1 hc.2] at h2 hx ⊢
        rw [jn_some hd.1 hg.1 hd.2] at hq ⊢
        have n1 := one_ne hc.1
        have n2 := one_ne hd.1
        have n3 := one_ne hg.1
        unfold jm at *
        by_cases k1 : ov c.hw c.was = ov d.hi d.is
        · rw [if_pos k1] at h2 hx ⊢
          by_cases k2 : ov d.hw d.was = ov g.hi g.is
          · rw [if_pos k2] at hq ⊢
            refine ⟨rfl, ?_⟩
            show some c = some g
            rw [← mk_ov hc.1, ← mk_ov hg.1, hc.2, hg.2, e1, k2, k1, e3]
          · rw [if_neg k2] at hq ⊢
            refine ⟨(jb_iff hc.1 hq.1).2 ((ov_mk _ _ _).1 ▸ e1), ?_⟩
            rw [jn_some hc.1 hq.1 hc.2, (ov_mk _ _ _).2]
            unfold jm
            rw [k1, e3, if_neg n3]
            show some (mkC p _ _) = some g
            rw [← hg.2, mk_ov hg.1]
        · rw [if_neg k1] at h2 hx ⊢
          have e2 := (jb_iff hx.1 hg.1).1 h2
          rw [jn_some hx.1 hg.1 hx.2, (ov_mk _ _ _).1]
          by_cases k2 : ov d.hw d.was = ov g.hi g.is
          · rw [if_pos k2] at hq ⊢
            refine ⟨rfl, ?_⟩
            show some c = jm p _ _
            unfold jm
            rw [← k2, ← e1, if_neg n1, ← hc.2, mk_ov hc.1]
          · rw [if_neg k2] at hq ⊢
            refine ⟨(jb_iff hc.1 hq.1).2 ((ov_mk _ _ _).1 ▸ e1), ?_⟩
            rw [jn_some hc.1 hq.1 hc.2, (ov_mk _ _ _).2]
theorem join_grp {c d g : List Ch} (hc : FitC V P c) (hd : FitC V P d) (hg : FitC V P g) (h1 : (joinT c d).2 = 0) (h2 : (joinT (joinT c d).1 g).2 = 0) (h3 : (joinT d g).2 = 0) :
    joinT c (joinT d g).1 = ((joinT (joinT c d).1 g).1, 0) := by
  have fx := join_fit hc hd h1
  have fq := join_fit hd hg h3
  have rx := join_row hc.2 hd.2 h1
  have rq := join_row hd.2 hg.2 h3
  have rp := join_row fx.2 hg.2 h2
  have key := fun p => grp_at (cz_at hc p) (cz_at hd p) (cz_at hg p) ((join_iff hc.2 hd.2).1 h1 p) (by rw [← rx.2 p]; exact (join_iff fx.2 hg.2).1 h2 p) ((join_iff hd.2 hg.2).1 h3 p)
  have h4 : (joinT c (joinT d g).1).2 = 0 := (join_iff hc.2 fq.2).2 fun p => by rw [rq.2 p]; exact (key p).1
  have rr := join_row hc.2 fq.2 h4
  refine Prod.ext (rows_eq rr.1 rp.1 fun p => ?_) h4
  rw [rr.2 p, rp.2 p, rx.2 p, rq.2 p]
  exact (key p).2
/-- A leaf at a key, as what is. -/
def vz (p : ByteArray) : Option Lf → Prop
  | none => True
  | some x => x.p = p
def ovl : Option Lf → Option ByteArray
  | none => none
  | some x => some x.v
def mkL (p : ByteArray) : Option ByteArray → Option Lf
  | none => none
  | some v => some ⟨p, v⟩
theorem mkL_ov {p : ByteArray} {X : Option Lf} (h : vz p X) : mkL p (ovl X) = X := by
  cases X with
  | none => rfl
  | some x => cases h; rfl
theorem ov_mkL (p : ByteArray) (u : Option ByteArray) : ovl (mkL p u) = u := by cases u <;> rfl
theorem wr_iff {X : Option Lf} {c : Ch} : wr (X, some c) = 0 ↔ ovl X = ov c.hw c.was := by
  cases X with
  | none =>
    show (bif c.hw then (44 : Int) else 0) = 0 ↔ none = ov c.hw c.was
    cases c.hw
    · exact ⟨fun _ => rfl, fun _ => rfl⟩
    · exact ⟨fun h => (by cases h), fun h => by cases h⟩
  | some x =>
    show (bif c.hw then (bif decide (x.v = c.was) then (0 : Int) else 54) else 42) = 0 ↔ some x.v = ov c.hw c.was
    cases c.hw
    · exact ⟨fun h => (by cases h), fun h => by cases h⟩
    · by_cases h : x.v = c.was
      · rw [decide_eq_true h]; exact ⟨fun _ => congrArg some h, fun _ => rfl⟩
      · rw [decide_eq_false h]; exact ⟨fun k => (by cases k), fun k => absurd (Option.some.inj k) h⟩
theorem app_some {p : ByteArray} {X : Option Lf} {c : Ch} (hp : c.p = p) : appO (X, some c) = mkL p (ov c.hi c.is) := by
  cases X <;>
  · show (bif c.hi then some (Lf.mk c.p c.is) else none) = _
    rw [hp]
    cases c.hi <;> rfl
/-- At one key: joined they do what both do. -/
theorem ja_at {p : ByteArray} {X : Option Lf} {C D : Option Ch} (hX : vz p X) (hc : cz (V := V) (P := P) p C) (hd : cz (V := V) (P := P) p D) (h2 : wr (X, C) = 0) (h3 : wr (appO (X, C), D) = 0) :
    wr (X, jn (C, D)) = 0 ∧ appO (X, jn (C, D)) = appO (appO (X, C), D) := by
  cases C with
  | none => cases D <;> exact ⟨h3, rfl⟩
  | some c =>
    cases D with
    | none => exact ⟨h2, rfl⟩
    | some d =>
      have w2 := wr_iff.1 h2
      have w3 := wr_iff.1 h3
      rw [app_some hc.2, ov_mkL] at w3
      have hj := jn_fit hc hd
      rw [jn_some hc.1 hd.1 hc.2] at hj ⊢
      rw [app_some (X := appO (X, some c)) hd.2]
      unfold jm at hj ⊢
      by_cases k : ov c.hw c.was = ov d.hi d.is
      · rw [if_pos k]
        refine ⟨by cases X <;> rfl, ?_⟩
        rw [← k, ← w2, mkL_ov hX]
        cases X <;> rfl
      · rw [if_neg k] at hj ⊢
        refine ⟨wr_iff.2 (by rw [w2, (ov_mk _ _ _).1]), ?_⟩
        rw [app_some hj.2, (ov_mk _ _ _).2]
theorem join_app {l : List Lf} {c d : List Ch} (hl : FitL V P l) (hc : FitC V P c) (hd : FitC V P d) (h1 : (joinT c d).2 = 0) (h2 : (appT l c).2 = 0) (h3 : (appT (appT l c).1 d).2 = 0) :
    appT l (joinT c d).1 = ((appT (appT l c).1 d).1, 0) := by
  have fx := join_fit hc hd h1
  have rx := join_row hc.2 hd.2 h1
  have ra := app_row hl.2 hc.2 h2
  have rb := app_row ra.1 hd.2 h3
  have key := fun p => ja_at (V := V) (P := P) (p := p) (X := look Lf.p p l) (C := look Ch.p p c) (D := look Ch.p p d) (by
      cases h : look Lf.p p l with
      | none => trivial
      | some x => exact lk_p h) (cz_at hc p) (cz_at hd p) ((app_iff hl.2 hc.2).1 h2 p) (by rw [← ra.2 p]; exact (app_iff ra.1 hd.2).1 h3 p)
  have h4 : (appT l (joinT c d).1).2 = 0 := (app_iff hl.2 fx.2).2 fun p => by rw [rx.2 p]; exact (key p).1
  have rr := app_row hl.2 fx.2 h4
  refine Prod.ext (rows_eq rr.1 rb.1 fun p => ?_) h4
  rw [rr.2 p, rb.2 p, ra.2 p, rx.2 p]
  exact (key p).2
end
end Go.Proofs.YtagfmppjlfhmeaaGreatDoor
