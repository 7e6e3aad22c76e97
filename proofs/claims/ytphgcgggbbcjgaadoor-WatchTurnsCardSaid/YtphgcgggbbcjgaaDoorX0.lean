/- Turns: what the samples ahead of one say. -/
import Derived.Test.YtphgcgggbbcjgaaDoorU
namespace Go.Proofs.YtphgcgggbbcjgaaDoor
open Go.RowKit Go.Dl

/-- A value speaks for a turn, of an alarm that is on or off; of AlChange nothing is said. -/
def saysB (a : Al) (on : Bool) (v : Int) : Bool :=
  if (a.kind == 1) = true then (bif on then decide (v ≤ a.low) else decide (a.high ≤ v)) else if (a.kind == 2) = true then (bif on then decide (a.high ≤ v) else decide (v ≤ a.low))
  else if (a.kind == 3) = true then (on != bif decide (v < a.low) then true else decide (a.high < v)) else true
theorem says_of {a : Al} {s : Wt} {v : Int} (h : speaksB a s v = true) : saysB a s.on v = true := by
  unfold speaksB at h
  unfold saysB
  by_cases h1 : (a.kind == 1) = true
  · rw [if_pos h1] at h ⊢
    unfold sp1 at h
    cases e : s.on <;> rw [e] at h <;> simpa using h
  · rw [if_neg h1] at h ⊢
    by_cases h2 : (a.kind == 2) = true
    · rw [if_pos h2] at h ⊢
      unfold sp2 at h
      cases e : s.on <;> rw [e] at h <;> simpa using h
    · rw [if_neg h2] at h ⊢
      by_cases h3 : (a.kind == 3) = true
      · rw [if_pos h3] at h ⊢
        exact h
      · rw [if_neg h3]
/-- How a sample is taken. -/
theorem take_cases (a : Al) (s : Wt) (m : Sm) :
    (m.has = false ∧ takeT a s m = (⟨s.on, 0, s.has, s.last, s.acked, s.since⟩, 0)) ∨
    (m.has = true ∧ ∃ r, (r = 0 ∨ (r = IntKind.i64.wrap (s.run + 1) ∧ speaksB a s m.value = true)) ∧
      ((r ≠ a.hold ∧ takeT a s m = (⟨s.on, r, true, m.value, s.acked, s.since⟩, 0)) ∨ (r = a.hold ∧ s.on = false ∧ takeT a s m = (⟨true, 0, true, m.value, false, m.tick⟩, 1)) ∨
       (r = a.hold ∧ s.on = true ∧ takeT a s m = (⟨false, 0, true, m.value, false, 0⟩, 2)))) := by
  by_cases hm : m.has = true
  · right
    refine ⟨hm, if speaksB a s m.value = true then IntKind.i64.wrap (s.run + 1) else 0, ?_, ?_⟩
    · split
      · rename_i h; exact .inr ⟨rfl, h⟩
      · exact .inl rfl
    · rw [takeT, if_pos hm]
      generalize (if speaksB a s m.value = true then IntKind.i64.wrap (s.run + 1) else 0) = r
      by_cases e : r = a.hold
      · rw [turnT, if_pos e]
        by_cases ho : s.on = true
        · rw [if_pos ho]; exact .inr (.inr ⟨e, ho, rfl⟩)
        · rw [if_neg ho]; exact .inr (.inl ⟨e, by simpa using ho, rfl⟩)
      · rw [turnT, if_neg e]; exact .inl ⟨e, rfl⟩
  · left
    exact ⟨by simpa using hm, by rw [takeT, if_neg hm]⟩
structure TurnI (a : Al) (L : List Sm) (i : Nat) (st : Wt) (last : Int) (on : Bool) : Prop where
  le : i ≤ L.length
  eq : st = (playK a L i).1
  fit : stateB a st = true
  on_eq : st.on = on
  lo : -1 ≤ last
  hi : last < i
  run : st.run ≤ (i : Int) - 1 - last
  acked : st.acked = false
  notes : 0 ≤ last ↔ (playK a L i).2 ≠ []
  says : ∀ j : Nat, (i : Int) - st.run ≤ j → j < i → (L.getD j sm0).has = true ∧ saysB a on (L.getD j sm0).value = true
/-- What a turn has ahead of it. -/
structure TurnOk (a : Al) (L : List Sm) (i : Nat) (last : Int) (on : Bool) (st : Wt) (what : Int) : Prop where
  what : (on = false ∧ what = 1) ∨ (on = true ∧ what = 2)
  far : a.hold ≤ (i : Int) - last
  says : ∀ j : Nat, (i : Int) + 1 - a.hold ≤ j → j ≤ i → (L.getD j sm0).has = true ∧ saysB a on (L.getD j sm0).value = true
  on_eq : st.on = !on
  acked : st.acked = false
  since : on = false → st.since = (L.getD i sm0).tick
  next : TurnI a L (i + 1) st i (!on)
theorem turn_zero {a : Al} {L : List Sm} (hf : fitA a = true) : TurnI a L 0 wt0 (-1) false := by
  refine ⟨Nat.zero_le _, rfl, state0 hf, rfl, Int.le_refl _, by decide, by decide, rfl, ?_, fun j h1 h2 => absurd h2 (Nat.not_lt_zero _)⟩
  constructor
  · intro h; omega
  · intro h; exact absurd rfl h
theorem turn_step {a : Al} {L : List Sm} {i : Nat} {st : Wt} {last : Int} {on : Bool} (h : TurnI a L i st last on) (hlt : i < L.length) (hm : sampleB (L.getD i sm0) = true) :
    ((takeT a st (L.getD i sm0)).2 = 0 ∧ TurnI a L (i + 1) (takeT a st (L.getD i sm0)).1 last on) ∨ ((takeT a st (L.getD i sm0)).2 ≠ 0 ∧ TurnOk a L i last on (takeT a st (L.getD i sm0)).1 (takeT a st (L.getD i sm0)).2) := by
  have hS := state_iff.1 h.fit
  have hA := fit_iff.1 hS.1
  have hw : IntKind.i64.wrap (st.run + 1) = st.run + 1 := wrapI (by omega) (by omega)
  have hp : playK a L (i + 1) = ((takeT a st (L.getD i sm0)).1, if (takeT a st (L.getD i sm0)).2 = 0 then (playK a L i).2 else (playK a L i).2 ++ [((L.getD i sm0).tick, (takeT a st (L.getD i sm0)).2)]) := by
    rw [play_succ hlt, play1, if_pos hm, ← h.eq]
  have hfit := take_fit h.fit hm
  have hlast := h.hi
  have hrun := h.run
  have hlo := h.lo
  generalize hmm : L.getD i sm0 = m at *
  have grow : ∀ r, (r = 0 ∨ (r = st.run + 1 ∧ speaksB a st m.value = true)) → m.has = true → ∀ j : Nat, (i : Int) + 1 - r ≤ j → j ≤ i → (L.getD j sm0).has = true ∧ saysB a on (L.getD j sm0).value = true := fun r hr hh j h1 h2 => by
    rcases hr with hr | ⟨hr, hsp⟩
    · omega
    · by_cases e : j = i
      · subst e
        rw [hmm]
        exact ⟨hh, by rw [← h.on_eq]; exact says_of hsp⟩
      · exact h.says j (by omega) (by omega)
  rcases take_cases a st m with ⟨hh, e⟩ | ⟨hh, r, hr, ⟨hne, e⟩ | ⟨hre, ho, e⟩ | ⟨hre, ho, e⟩⟩
  · left
    rw [e] at hp hfit ⊢
    refine ⟨rfl, hlt, by rw [hp], hfit, h.on_eq, h.lo, by omega, by simp only; omega, h.acked, ?_, fun j h1 h2 => by simp only at h1; omega⟩
    rw [hp]; exact h.notes
  · left
    rw [hw] at hr
    rw [e] at hp hfit ⊢
    refine ⟨rfl, hlt, by rw [hp], hfit, h.on_eq, h.lo, by omega, ?_, h.acked, ?_, fun j h1 h2 => grow r hr hh j (by simp only at h1; omega) (by omega)⟩
    · simp only
      rcases hr with hr | ⟨hr, _⟩ <;> omega
    · rw [hp]; exact h.notes
  · right
    rw [hw] at hr
    have hon : on = false := by rw [← h.on_eq]; exact ho
    rw [e] at hp hfit ⊢
    have hfar : a.hold ≤ (i : Int) - last := by rcases hr with hr | ⟨hr, _⟩ <;> omega
    refine ⟨by simp, .inl ⟨hon, rfl⟩, hfar, fun j h1 h2 => grow r hr hh j (by omega) h2, by rw [hon]; rfl, rfl, fun _ => by rw [hmm], ?_⟩
    refine ⟨hlt, by rw [hp], hfit, by rw [hon]; rfl, by omega, by omega, by simp only; omega, rfl, ?_, fun j h1 h2 => by simp only at h1; omega⟩
    rw [hp]
    simp
  · right
    rw [hw] at hr
    have hon : on = true := by rw [← h.on_eq]; exact ho
    rw [e] at hp hfit ⊢
    have hfar : a.hold ≤ (i : Int) - last := by rcases hr with hr | ⟨hr, _⟩ <;> omega
    refine ⟨by simp, .inr ⟨hon, rfl⟩, hfar, fun j h1 h2 => grow r hr hh j (by omega) h2, by rw [hon]; rfl, rfl, fun e2 => (by rw [hon] at e2; cases e2), ?_⟩
    refine ⟨hlt, by rw [hp], hfit, by rw [hon]; rfl, by omega, by omega, by simp only; omega, rfl, ?_, fun j h1 h2 => by simp only at h1; omega⟩
    rw [hp]
    simp
theorem foldl_fit (a : Al) (l : List Sm) : ∀ x, l.foldl (play1 a) x = (l.filter sampleB).foldl (play1 a) x := by
  induction l with
  | nil => intro x; rfl
  | cons m l ih =>
    intro x
    rw [List.foldl_cons, List.filter_cons]
    split
    · rw [List.foldl_cons]; exact ih _
    · rename_i h
      rw [play1, if_neg h]; exact ih _
theorem play_fit (a : Al) (l : List Sm) : playT a l = playT a (fitL l) := by
  unfold playT playK
  rw [List.take_of_length_le (Nat.le_refl _), List.take_of_length_le (Nat.le_refl _)]
  exact foldl_fit a l _
end Go.Proofs.YtphgcgggbbcjgaaDoor
